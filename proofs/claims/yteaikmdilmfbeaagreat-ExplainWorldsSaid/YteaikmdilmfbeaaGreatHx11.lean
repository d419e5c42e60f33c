/- A part of the proof: an interpreter over abstract values, shown right against the model, and what the functions of the chapter compute on it. -/
import Derived.Test.YteaikmdilmfbeaaGreatHx10
set_option linter.unusedVariables false
set_option linter.unusedSimpArgs false
set_option linter.unnecessarySimpa false
section
section
namespace Hx
open Go
noncomputable section
theorem ae {α:Type}{l:List α}{j:Nat}(h:j<l.length):∃x,l[j]?=some x/\l.take (j+1)=l.take j++[x]/\x∈l :=
 ⟨l[j],List.getElem?_eq_getElem h,by rw[List.take_add_one,List.getElem?_eq_getElem h];rfl,List.getElem_mem h⟩
def S.Pd (l:List Int):Int:=l.foldl (λs x=>IntKind.wrap .i64 (s*x)) 1
theorem L_ {d:Nat}{g:G}{v:AV}(hd:0<d)(hv:yK g.h v)(hl:(mV g.h v).length<9223372036854775808) :
  am C0 d N.OK [v] g=.val (.int .i64 (S.Pd (mV g.h v))):=by
 obtain ⟨v',e,hr,hlen⟩:=Id hv hl d;generalize mV g.h v=l at hr hlen hl ⊢;rw[wS];refine dE zP (xs:=[v']) (by simp only[aE,e]) (by simp[oY]) hd ?_;simp only[sz,simprocAttr,oY];refine mz hl hlen (λj t df g=>df=[]/\tat t 3=.int .i64 (S.Pd (l.take j))) ⟨rfl,by simp[sx,S.Pd]⟩ (by simp[sx]) (by simp[sx]) (by decide)
  (by rintro j t df g v s (rfl | rfl | rfl | rfl | rfl | rfl | rfl)<;>simp[sx]) ?_ ?_
 ·rintro j t df g hj ⟨rfl,h3⟩ h4 h0;obtain ⟨x,hx,htk,hm⟩:=ae hj;simp only[sz,simprocAttr,hr,h0,h3,h4,hx,hj,List.length_map,List.getElem?_map,Option.map_some,ci,htk,S.Pd,List.foldl_append,List.foldl_cons,List.foldl_nil]
 ·rintro t df g ⟨rfl,h3⟩ -;rw[List.take_length] at h3;simp only[sz,simprocAttr,pD,h3]
def S.O4 (l:List Int)(n:Int)(i:Nat):Bool:=decide (0<=l[i]?.getD 0)&&decide (l[i]?.getD 0<n)&&(i == 0 || decide (l[i - 1]?.getD 0<l[i]?.getD 0))
def S.OS (l:List Int)(n:Int):Bool:=(List.range l.length).all (S.O4 l n)
def S.O9 (n:Nat):Nat:=1*2 ^ n % 18446744073709551616
def S.OP (l:List Int):Nat:=l.foldl (λs x=>s ||| S.O9 x.toNat) 0
theorem u7 (n:Nat):S.O9 n<18446744073709551616:=Nat.mod_lt _ (by decide)
theorem wy {α:Type}(f:α->Nat)(hf:∀a,f a<18446744073709551616):∀(l:List α) (s:Nat),s<18446744073709551616->l.foldl (λs x=>s ||| f x) s<18446744073709551616
 | [],_,h=>h
 | a::l,s,h=>wy f hf l _ (Gw h (hf a))
theorem rQ (l:List Int):S.OP l<18446744073709551616:=wy _ (λa=>u7 _) l 0 (by decide)
theorem AQ (l:List Int)(x:Int):S.OP (l++[x])=S.OP l ||| S.O9 x.toNat:=by simp[S.OP]
theorem qd (k':IntKind)(n:Nat):cq .shl (.int .u64 1) (.int k' (n:Int))=.val (.int .u64 (S.O9 n:Int)):=K2 k' 1 n
def S.Pr (s v:Nat):Bool:=s / 2 ^ v &&& 1 == 1
theorem MM {d:Nat}{g:G}{s v:Nat}(hd:0<d)(hs:s<18446744073709551616)(hv:v<9223372036854775808) :
  am C0 d N.O_ [.int .u64 (s:Int),.int .i64 (v:Int)] g=.val (.bool (S.Pr s v)):=by
 rw[zF];refine ej CM (xs:=[.int .u64 (s:Int),.int .i64 (v:Int)]) (by simp only[aE,bD 0]) (by simp[tx]) hd ?_;have h1:s / 2 ^ v<18446744073709551616:=Nat.lt_of_le_of_lt (Nat.div_le_self _ _) hs;have h2:cq .and (.int .u64 ((s / 2 ^ v:Nat):Int)) (.int .u64 1)=.val (.int .u64 ((s / 2 ^ v &&& 1:Nat):Int)):=Fx (s / 2 ^ v) 1 h1 (by decide);simp only[sz,simprocAttr,tx,sn (show (0:Int)<=(v:Int) by omega) (by omega),FH _ _ _ hs,h2,S.Pr];congr 1;generalize s / 2 ^ v &&& 1=z;rw[Bool.eq_iff_iff,decide_eq_true_iff,beq_iff_eq];omega
def S.O6 (p:List Nat)(s:Nat)(j:Nat):Nat:=(List.range j).foldl (λs v=>if S.Pr s v then s ||| p[v]?.getD 0 else s) s
def S.up (p:List Nat)(s:Nat)(j:Nat):Nat:=(List.range j).foldl (λs _=>S.O6 p s p.length) s
theorem D7 {p:List Nat}(hp:∀x∈p,x<18446744073709551616){s:Nat}(hs:s<18446744073709551616):∀j,S.O6 p s j<18446744073709551616:=by
 intro j
 induction j with
 | zero=>exact hs
 | succ j ih =>
  unfold S.O6 at ih ⊢;rw[List.range_succ,List.foldl_append];simp only[List.foldl_cons,List.foldl_nil]
  split
  ·refine Gw ih ?_;cases h:p[j]? with
   | none=>decide
   | some x=>exact hp x (List.mem_of_getElem? h)
  ·exact ih
theorem fP (p:List Nat)(s j:Nat):S.O6 p s (j+1)=if S.Pr (S.O6 p s j) j then S.O6 p s j ||| p[j]?.getD 0 else S.O6 p s j:=by unfold S.O6;rw[List.range_succ,List.foldl_append];rfl
theorem M1 {p:List Nat}(hp:∀x∈p,x<18446744073709551616){s:Nat}(hs:s<18446744073709551616):∀j,S.up p s j<18446744073709551616:=by
 intro j
 induction j with
 | zero=>exact hs
 | succ j ih =>
  unfold S.up at ih ⊢;rw[List.range_succ,List.foldl_append];exact D7 hp ih _
theorem mu (p:List Nat)(s j:Nat):S.up p s (j+1)=S.O6 p (S.up p s j) p.length:=by unfold S.up;rw[List.range_succ,List.foldl_append];rfl
theorem Ot {d k:Nat}{g:G}{P:Nat->Prop}{v:AV}{p:List Nat}{s:Nat}(hd:0<d)(hv:SlR P k g.h p v)(hs:s<18446744073709551616) :
  am C0 d N.Py [v,.int .u64 (s:Int)] g=.val (.int .u64 (S.up p s p.length:Int)):=by
 obtain ⟨v',e,r1⟩:=be hv d;have hp:=oC hv;have hl:=hv.1;rw[zG];refine dE CN (xs:=[v',.int .u64 (s:Int)]) (by simp only[aE,e,bD 0]) (by simp[tz]) hd ?_;simp only[sz,simprocAttr,tz];refine mz hl (r1 .nil).len (λj t df g=>df=[]/\tat t 1=.int .u64 (S.up p s j:Int)) ⟨rfl,by simp[sx,S.up]⟩ (by simp[sx]) (by simp[sx]) (by decide)
  (by rintro j t df g v s (rfl | rfl | rfl | rfl | rfl | rfl | rfl)<;>simp[sx]) ?_ ?_
 ·rintro j t df g hj ⟨rfl,h1⟩ h5 h0;simp only[sz,simprocAttr];have hu:=M1 hp hs j;refine mz hl (r1 .nil).len (λi t df g=>df=[]/\tat t 5=.int .i64 (j:Int)/\tat t 1=.int .u64 (S.O6 p (S.up p s j) i:Int)) ⟨rfl,by simp[sx,h5],by simp[sx,S.O6,h1]⟩ (by simp[sx]) (by simp[sx,h0]) (by decide)
   (by rintro j t df g v s (rfl | rfl | rfl | rfl | rfl | rfl | rfl)<;>simp[sx]) ?_ ?_
  ·rintro i t df g hi ⟨rfl,h5,h1⟩ h6 h0;have hr:=D7 hp hu i;obtain ⟨x,hx,-,hm⟩:=ae hi;simp only[sz,simprocAttr,h1,h6,MM (Nat.succ_pos d) hr (show i<9223372036854775808 by omega)];refine aZ (λhb=>?_) (λhb=>?_)
   ·simp only[sz,simprocAttr,h0,h1,h5,h6,(r1 g.h).nats,hi,hx,List.length_map,List.getElem?_map,Option.map_some,cu,Bg _ _ hr (hp x hm)];rw[fP,hb,hx];rfl
   ·simp only[sx,sy,↓reduceIte,Nat.reduceEqDiff,h0,h1,h5,h6];rw[fP,hb];rfl
  ·rintro t df g ⟨rfl,h5,h1⟩ h0;simp only[sx,sy,↓reduceIte,h0,h5,h1];rw[mu]
 ·rintro t df g ⟨rfl,h1⟩ -;simp only[sz,simprocAttr,sM,h1]
def S.Pb (p:List Nat):Bool:=(List.range p.length).all λv=>!S.Pr (S.up p (p[v]?.getD 0) p.length) v
theorem wD {d k:Nat}{g:G}{P:Nat->Prop}{v:AV}{p:List Nat}(hd:0<d)(hv:SlR P k g.h p v) :
  am C0 d N.Pr [v] g=.val (.bool (S.Pb p)):=by
 obtain ⟨v',e,r1⟩:=be hv d;have hp:=oC hv;have hl:=hv.1;rw[sY];refine ej vJ (xs:=[v']) (by simp only[aE,e]) (by simp[js]) hd ?_;simp only[sz,simprocAttr,js];refine mz hl (r1 .nil).len (λj t df g=>df=[]/\(List.range j).all (λv=>!S.Pr (S.up p (p[v]?.getD 0) p.length) v)=true) ⟨rfl,rfl⟩ (by simp[sx]) (by simp[sx]) (by decide)
  (by rintro j t df g v s (rfl | rfl | rfl | rfl | rfl | rfl | rfl)<;>simp[sx]) ?_ ?_
 ·rintro j t df g hj ⟨rfl,hw⟩ h3 h0;obtain ⟨x,hx,-,hm⟩:=ae hj;have hx':=hp x hm;simp only[sz,simprocAttr,h0,h3,(r1 g.h).nats,hj,hx,List.length_map,List.getElem?_map,Option.map_some,cu,Ot (Nat.succ_pos d) (r1 g.h) hx',MM (Nat.succ_pos d) (M1 hp hx' _) (show j<9223372036854775808 by omega)];refine aZ (λhb=>?_) (λhb=>?_)
  ·simp only[sz,simprocAttr];rw[S.Pb,jk hj (by rw[hx];simp[hb])]
  ·simp only[sx,sy,↓reduceIte,Nat.reduceEqDiff,h0,h3];rw[cx,hw,hx];simp[hb]
 ·rintro t df g ⟨rfl,hw⟩ h0;simp only[sz,simprocAttr,kJ];rw[S.Pb,hw]
def S.OH (l:List Int):Int:=l.foldl (·*·) 1
theorem rU (l:List Int)(x:Int):S.OH (l++[x])=S.OH l*x:=by simp[S.OH]
theorem iF {a b:Nat}(h:a<=b):(4:Int) ^ a<=4 ^ b:=by
 obtain ⟨c,rfl⟩:∃c,b=a+c:=⟨b - a,by omega⟩
 induction c with
 | zero=>exact Int.le_refl _
 | succ c ih =>
  have:=ih (by omega);rw[show a+(c+1)=(a+c)+1 from rfl,Int.pow_succ];have h0:(0:Int)<=4 ^ (a+c):=Int.le_of_lt (Int.pow_pos (by decide));omega
theorem cM (a:Int)(l:List Int):S.OH (a::l)=a*S.OH l:=by
 have:∀(l:List Int) (s:Int),l.foldl (·*·) s=s*l.foldl (·*·) 1:=by
  intro l
  induction l with
  | nil=>intro s;simp
  | cons x l ih=>intro s;rw[List.foldl_cons,ih,List.foldl_cons,ih (1*x),Int.one_mul,Int.mul_assoc]
 unfold S.OH;rw[List.foldl_cons,this,Int.one_mul]
theorem bV:∀{l:List Int},(∀x∈l,1<=x/\x<=4)->1<=S.OH l/\S.OH l<=4 ^ l.length
 | [],_=>⟨by decide,by decide⟩
 | a::l,h=>by
  obtain ⟨h1,h2⟩:=bV (l:=l) λx hx=>h x (by simp[hx]);obtain ⟨h3,h4⟩:=h a (by simp);rw[cM,List.length_cons,Int.pow_succ,Int.mul_comm (4 ^ l.length)];constructor
  ·have:=Int.mul_le_mul h3 h1 (by decide) (by omega);simpa using this
  ·exact Int.mul_le_mul h4 h2 (by omega) (by decide)
theorem A4 {b:Int}(hb:0<=b):∀{l:List Int},(∀x∈l,0<=x/\x<=b)->0<=l.sum/\l.sum<=b*l.length
 | [],_=>by simp
 | a::l,h=>by
  obtain ⟨h1,h2⟩:=A4 hb (l:=l) λx hx=>h x (by simp[hx]);obtain ⟨h3,h4⟩:=h a (by simp);rw[List.sum_cons,List.length_cons];have:b*((l.length+1:Nat):Int)=b*(l.length:Int)+b:=by rw[Int.natCast_add,Int.mul_add];simp
  omega
theorem uP (l:List Int)(x:Int):(l++[x]).sum=l.sum+x:=by simp
def S.PU (m:Causal)(p:Int):Int:=(m.nodes[p.toNat]?.map (·.card)).getD 0
def S.P5 (m:Causal)(r:Int):Int:=(m.roots[r.toNat]?.map λr=>(r.length:Int)).getD 0
def S.PB (a b:Nat):Nat:=a ^^^ (a &&& b)
theorem M9 {n:Nat}(h:n<64):S.O9 n=2 ^ n:=by unfold S.O9;rw[Nat.one_mul,Nat.mod_eq_of_lt];exact Nat.pow_lt_pow_right (a:=2) (by decide) h
theorem E8 {d k:Nat}{g:G}{P:Nat->Prop}{v:AV}{l:List Int}{n:Int}(hd:0<d)(hv:SlR P k g.h l v) :
  am C0 d N.Pp [v,.int .i64 n] g=.val (.bool (S.OS l n)):=by
 obtain ⟨v',e,r1⟩:=be hv d;rw[uc];refine ej wZ (xs:=[v',.int .i64 n]) (by simp only[aE,bD 0,e]) (by simp[kH]) hd ?_;simp only[sz,simprocAttr,kH];have hl:=hv.1;refine mz hl (r1 .nil).len (λj t df g=>df=[]/\tat t 1=.int .i64 n/\(List.range j).all (S.O4 l n)=true)
  ⟨rfl,by simp[sx],rfl⟩ (by simp[sx]) (by simp[sx]) (by decide) (by rintro j t df g v s (rfl | rfl | rfl | rfl | rfl | rfl | rfl)<;>simp[sx]) ?_ ?_
 ·rintro j t df g hj ⟨rfl,h1,hw⟩ h5 h0;obtain ⟨x,hx,htk,hm⟩:=ae hj;have bad:S.O4 l n j=false->S.OS l n=false:=λh=>jk hj h;have rr:=(r1 g.h).ints;simp only[sz,simprocAttr,rr,h0,h5,hx,hj,List.length_map,List.getElem?_map,Option.map_some,ci];refine aZ (λhb=>?_) (λhb=>?_)
  ·simp only[sz,simprocAttr,hb];rw[bad (by simp[S.O4,hx] at *;omega)]
  ·simp only[sz,simprocAttr,rr,hb,h0,h1,h5,hx,hj,List.length_map,List.getElem?_map,Option.map_some,ci];refine aZ (λhc=>?_) (λhc=>?_)
   ·simp only[sz,simprocAttr,hc];rw[bad (by simp[S.O4,hx] at *;omega)]
   ·simp only[sz,simprocAttr,hc,h5];refine aZ (λhd=>?_) (λhd=>?_)
    ·obtain ⟨i,rfl⟩:∃i,j=i+1:=⟨j - 1,by simp at hd;omega⟩;obtain ⟨y,hy,-,-⟩:=ae (l:=l) (j:=i) (by omega);have hi:i<l.length:=by omega
     have e:IntKind.wrap .i64 (((i+1:Nat):Int) - 1)=(i:Int):=by rw[ay (by omega) (by omega)];omega
     simp only[sz,simprocAttr,rr,hd,e,h0,h5,hx,hj,hy,hi,List.length_map,List.getElem?_map,Option.map_some,ci];refine aZ (λhe=>?_) (λhe=>?_)
     ·simp only[sz,simprocAttr];rw[bad (by simp[S.O4,hx,hy] at *;omega)]
     ·simp only[sx,sy,↓reduceIte,Nat.reduceEqDiff,h0,h1,h5];rw[cx,hw];simp[S.O4,hx,hy] at *;omega
    ·have:j=0:=by simp at hd;omega
     subst this;simp only[sz,simprocAttr,hd,h0,h1,h5];simp[S.O4,hx] at *;omega
 ·rintro t df g ⟨rfl,-,hw⟩ -;simp only[sz,simprocAttr,l9];rw[S.OS,hw]
def S.P7 (m:Causal)(x:Mech):List Int:=x.frm.map (S.PU m)++x.noise.map (S.P5 m)
def S.PZ (m:Causal):Int:=S.OH (m.roots.map λr=>(r.length:Int))
end
end Hx
end
section
namespace Hx
open Go
def Sub (a s:Nat):Prop:=∀v,a.testBit v=true->s.testBit v=true
theorem uC (s v:Nat):S.Pr s v=s.testBit v:=by rw[Nat.testBit_eq_decide_div_mod_eq,S.Pr,Nat.and_one_is_mod];rw[Bool.eq_iff_iff,beq_iff_eq,decide_eq_true_iff]
theorem Ax {a s:Nat}:S.PB a s=0↔Sub a s:=by
 constructor
 ·intro h v hv;have:=congrArg (·.testBit v) h;simp[S.PB,hv] at this;exact this
 ·intro h;refine Nat.eq_of_testBit_eq λv=>?_;have:=h v;simp only[S.PB,Nat.testBit_xor,Nat.testBit_and,Nat.zero_testBit];cases ha:a.testBit v
  ·rfl
  ·rw[this ha];rfl
theorem rt (a b v:Nat):(a ||| b).testBit v=(a.testBit v || b.testBit v):=Nat.testBit_or a b v
theorem xQ {n:Nat}(h:n<64)(v:Nat):(S.O9 n).testBit v=decide (n=v):=by rw[M9 h,Nat.testBit_two_pow]
section
variable {p:List Nat}
def Par (p:List Nat)(v:Nat):Nat:=p[v]?.getD 0
def Cl (p:List Nat)(s:Nat):Prop:=∀v,v<p.length->s.testBit v=true->Sub (Par p v) s
theorem A8 {s t:Nat}(hc:Cl p t)(h:Sub s t):∀j,j<=p.length->Sub (S.O6 p s j) t
 | 0,_=>h
 | j+1,hj=>by
  have ih:=A8 hc h j (by omega);rw[fP]
  split
  ·rename_i hb;rw[uC] at hb;intro v hv;rw[rt,Bool.or_eq_true] at hv;rcases hv with hv | hv
   ·exact ih v hv
   ·exact hc j (by omega) (ih j hb) v hv
  ·exact ih
theorem Fj {s t:Nat}(hc:Cl p t)(h:Sub s t):∀j,Sub (S.up p s j) t
 | 0=>h
 | j+1=>by rw[mu];exact A8 hc (Fj hc h j) _ (Nat.le_refl _)
def G2 (p:List Nat)(s:Nat):Prop:=Cl p s/\∀v,v<p.length->s.testBit v=true->(S.up p (Par p v) p.length).testBit v=false
theorem xM:S.Pb p=true↔∀v,v<p.length->(S.up p (Par p v) p.length).testBit v=false:=by
 unfold S.Pb;rw[List.all_eq_true];constructor
 ·intro h v hv;have:=h v (List.mem_range.2 hv);rw[uC] at this;simpa [Par] using this
 ·intro h v hv;have:=h v (List.mem_range.1 hv);rw[uC];simpa [Par] using this
def bct (s:Nat):Nat->Nat
 | 0=>0
 | n+1=>bct s n+(if s.testBit n then 1 else 0)
theorem Eg (s:Nat):∀n,bct s n<=n
 | 0=>Nat.le_refl _
 | n+1=>by have:=Eg s n;unfold bct;split<;>omega
theorem Cn {a s:Nat}(h:Sub a s):∀n,bct a n<=bct s n
 | 0=>Nat.le_refl _
 | n+1=>by
  have:=Cn h n;unfold bct
  split
  ·rename_i hb;rw[if_pos (h n hb)];omega
  ·split<;>omega
theorem If {a s:Nat}(h:Sub a s){v:Nat}(hv:s.testBit v=true)(ha:a.testBit v=false):∀n,v<n->bct a n<bct s n
 | 0,h0=>by omega
 | n+1,hn=>by
  unfold bct
  by_cases hvn:v=n
  ·subst hvn;have:=Cn h v;rw[if_pos hv,ha];simp;omega
  ·have:=If h hv ha n (by omega)
   split
   ·rename_i hb;rw[if_pos (h n hb)];omega
   ·split<;>omega
theorem Cm {s:Nat}:∀n,bct s n=n->∀v,v<n->s.testBit v=true
 | 0,_,v,h=>by omega
 | n+1,h,v,hv=>by
  unfold bct at h;have:=Eg s n
  split at h
  ·rename_i hb
   by_cases e:v=n
   ·subst e;exact hb
   ·exact Cm n (by omega) v (by omega)
  ·omega
theorem uO {a s:Nat}(h:Sub a s)(h':Sub s a):a=s:=Nat.eq_of_testBit_eq λv=>by
 cases ha:a.testBit v
 ·cases hs:s.testBit v
  ·rfl
  ·rw[h' v hs] at ha;cases ha
 ·rw[h v ha]
theorem NM {a s:Nat}(h:Sub a s):a<=s:=by
 have:a ||| s=s:=Nat.eq_of_testBit_eq λv=>by
  rw[rt];cases ha:a.testBit v
  ·simp
  ·rw[h v ha];rfl
 rw[<-this];exact Nat.left_le_or
theorem pp (s:Nat):∀j,Sub s (S.O6 p s j)
 | 0=>λ_ h=>h
 | j+1=>by
  have ih:=pp s j;rw[fP]
  split
  ·intro v hv;rw[rt,ih v hv];rfl
  ·exact ih
theorem Fi {s:Nat}{j k:Nat}(h:j<=k):Sub (S.O6 p s j) (S.O6 p s k):=by
 induction h with
 | refl=>exact λ_ h=>h
 | step _ ih =>
  rw[fP]
  split
  ·intro v hv;rw[rt,ih v hv];rfl
  ·exact ih
theorem He {s:Nat}(h:S.O6 p s p.length=s):Cl p s:=by
 intro v hv hb u hu;have h1:(S.O6 p s v).testBit v=true:=pp s v v hb;have h2:(S.O6 p s (v+1)).testBit u=true:=by rw[fP,uC,h1,if_pos rfl,rt];have:(p[v]?.getD 0).testBit u=true:=hu;rw[this];simp
 have:=Fi (p:=p) (s:=s) (show v+1<=p.length by omega) u h2;rwa [h] at this
theorem KE {s n v:Nat}(h:s<2 ^ n)(hv:s.testBit v=true):v<n:=by
 rcases Nat.lt_or_ge v n with h1 | h1
 ·exact h1
 ·rw[Nat.testBit_lt_two_pow (Nat.lt_of_lt_of_le h (Nat.pow_le_pow_right (by decide) h1))] at hv;cases hv
theorem Oq {f:Nat->Nat}{n:Nat}(hm:∀j,Sub (f j) (f (j+1)))(hb:∀j,f j<2 ^ n)(hs:∀j,f (j+1)=f j->f (j+2)=f (j+1)):f (n+1)=f n:=by
 have key:∀j,j<=bct (f j) n\/f (j+1)=f j:=by
  intro j
  induction j with
  | zero=>exact .inl (Nat.zero_le _)
  | succ j ih =>
   rcases ih with ih | ih
   ·by_cases e:f (j+1)=f j
    ·exact .inr (hs j e)
    ·left;have:∃v,(f (j+1)).testBit v=true/\(f j).testBit v=false:=by
      apply Classical.byContradiction;intro hno;apply e;refine uO (λv hv=>?_) (hm j);cases hc:(f j).testBit v
      ·exact absurd ⟨v,hv,hc⟩ hno
      ·rfl
     obtain ⟨v,h1,h2⟩:=this;have:=If (hm j) h1 h2 n (KE (hb _) h1);omega
   ·exact .inr (hs j ih)
 rcases key n with h | h
 ·have hc:bct (f n) n=n:=by have:=Eg (f n) n;omega
  refine uO (λv hv=>?_) (hm n);exact Cm n hc v (KE (hb _) hv)
 ·exact h
theorem Nt {a b n:Nat}(h:a<2 ^ n)(h':b<2 ^ n):a ||| b<2 ^ n:=Nat.or_lt_two_pow h h'
theorem ES {v:Nat}(hp:∀x∈p,x<2 ^ p.length):Par p v<2 ^ p.length:=by
 unfold Par;cases h:p[v]? with
 | none=>exact Nat.pow_pos (by decide)
 | some x=>exact hp x (List.mem_of_getElem? h)
theorem A7 (hp:∀x∈p,x<2 ^ p.length){s:Nat}(hs:s<2 ^ p.length):∀j,S.O6 p s j<2 ^ p.length
 | 0=>hs
 | j+1=>by
  have ih:=A7 hp hs j;rw[fP]
  split
  ·exact Nt ih (ES hp)
  ·exact ih
theorem KH (hp:∀x∈p,x<2 ^ p.length){s:Nat}(hs:s<2 ^ p.length):∀j,S.up p s j<2 ^ p.length
 | 0=>hs
 | j+1=>by rw[mu];exact A7 hp (KH hp hs j) _
theorem H6 (hp:∀x∈p,x<2 ^ p.length){s:Nat}(hs:s<2 ^ p.length):Cl p (S.up p s p.length):=by
 apply He;rw[<-mu];exact Oq (f:=λj=>S.up p s j) (λj=>by rw[mu];exact pp _ _) (λj=>KH hp hs j) (λj e=>by
  have e:S.up p s (j+1)=S.up p s j:=e;show S.up p s (j+1+1)=S.up p s (j+1);rw[mu,e,<-mu,e])
theorem Cd {s:Nat}:∀j,Sub s (S.up p s j)
 | 0=>λ_ h=>h
 | j+1=>λv hv=>by rw[mu];exact pp _ _ v (Cd j v hv)
end
end Hx
end
section
namespace Hx
open Go
noncomputable section
theorem lD {a b:List Nat}(h:∀i∈a,∀j∈b,i≠j):meets a b=false:=by simp only[meets,List.any_eq_false];intro i hi hc;exact h i hi i (List.contains_iff_mem.1 hc) rfl
theorem dI {x y:Foot}(hb:x.lk.big=false)(hb2:y.lk.big=false)(hs:x.lk.sr=[])(hs2:y.lk.sr=[])(h1:∀i∈x.wr,∀j∈y.wr,i≠j)(h2:∀i∈x.wr,∀j∈y.lk.rd,i≠j)(h3:∀i∈y.wr,∀j∈x.lk.rd,i≠j) :
  bU x y=true:=by
 have m1:=lD h1;have m2:=lD h2;have m3:=lD h3;have m4:meets y.wr x.wr=false:=lD λi hi j hj e=>h1 j hj i hi e.symm;have m5:∀l:List Nat,meets l []=false:=λl=>by simp[meets]
 simp only[bU,i_,ge,hb,hb2,hs,hs2,m1,m2,m3,m4,m5,fst1,List.map_nil,Bool.not_false,Bool.and_self,Bool.true_or]
 split<;>split<;>rfl
theorem oo {g:G}{b sz bytes:Nat}{zero:List AV}{k1 k2:IntKind}{n:Nat}{K:AV->G->Prop}{D:ADf->Prop}(hn:n<=aP)(hb:n*bytes<=aP)(hg:b<=g.nx)
  (k:∀v' g',Own g' b v' sz (List.replicate n zero)->g'.nx=g.nx+1->(∀i,i<g.nx->g'.h.get i=g.h.get i)->vid v'=some g.nx->g'.lg=g.nx::g.lg->K v' g') :
  (Db sz bytes zero (.int k1 (n:Int)) (.int k2 (n:Int)) g).sat K g D:=by
 show (match bZ aP (.int k2 (.ofNat n)) with
  | some cn=>match bZ cn (.int k1 (.ofNat n)) with
   | some ln=>au (Nat.ble (cn*bytes) aP) (OR.upd (.hsl g.nx 0 0 ln none) (g.new (.cells sz (eV cn zero) 0 false false))) .fail
   | none=>.fail
  | none=>.fail).sat K g D
 simp only[bZ,aa,Nat.ble_eq,if_pos hn,Nat.le_refl,if_pos hb,if_true];refine k _ _ (.inr ⟨g.nx,0,false,hg,by simp,by simp,by simp[aR,eV]⟩) (by simp) (λi hi=>?_) rfl (by simp);rw[G.new_h,aq _ _ _ (by omega)]
theorem N3 (n sz id ep i off:Nat)(k:IntKind){j:Nat}(h:j<n):Ji n sz (.hptr id ep i off) (.int k (j:Int))=.val (.hptr id ep i (off+j*sz)):=by show au (Nat.blt j n) (OR.val (.hptr id ep i (off+j*sz))) .fail=_;rw[aa,if_pos (by simpa using h)]
def u8v (x:UInt8):AV:=.int .u8 (x.toNat:Int)
theorem Kq (l:List UInt8)(h:H)(d:Nat):snap h d aB (.agg (l.map u8v))=some (.agg (l.map u8v)):=by
 have:∀l:List UInt8,aE (Hx.snap h d 23) (l.map u8v)=some (l.map u8v):=λl=>by
  induction l with
  | nil=>rfl
  | cons x l ih =>
   simp only[List.map_cons,aE,ih,show Hx.snap h d 23 (u8v x)=some (u8v x) from rfl]
 show (match aE (Hx.snap h d 23) (l.map u8v) with | some ys=>some (AV.agg ys) | none=>none)=_;rw[this]
def Raw (w:AV):Prop:=w=.nils\/∃rows,w=.tsl 0 1 rows
theorem K7 (z:AV)(k k':IntKind)(x y:Int)(g:G):Ii 1 2 [z] [0,1] [.int k x,.int k' y] g=.upd (.hsl g.nx 0 0 2 none) (g.new (.cells 1 [[.int k x],[.int k' y]] 0 false false)):=rfl
abbrev Ea:Type:=List UInt8×UInt16×List UInt8
def S.Pq (us:List UInt8):List Int:=(us.take 5).map λu=>1+(u.toNat:Int) % 4
theorem Kb {P:Nat->Prop}{k:Nat}{h:H}{x:UInt16}{cs:List AV}:Rp.rp P k h x cs↔cs=[.int .u16 (x.toNat:Int)]:=by simp[Rp.rp]
theorem r_ {P:Nat->Prop}{k:Nat}{h:H}{x:Ea}{cs:List AV}:Rp.rp P k h x cs↔∃a b,cs=[a,.int .u16 (x.2.1.toNat:Int),b]/\SlR P k h x.1 a/\SlR P k h x.2.2 b:=by
 constructor
 ·rintro ⟨c1,c2,rfl,⟨a,rfl,h1⟩,c3,c4,rfl,h2,⟨b,rfl,h3⟩⟩;rw[Kb.1 h2];exact ⟨a,b,rfl,h1,h3⟩
 ·rintro ⟨a,b,rfl,h1,h2⟩;exact ⟨[a],[_,b],rfl,⟨a,rfl,h1⟩,[_],[b],rfl,Kb.2 rfl,⟨b,rfl,h2⟩⟩
theorem Hi {d k:Nat}{g:G}{P:Nat->Prop}{v:AV}{x:Ea}(hd:0<d)(hm:Agg x P k g.h v) :
  ∃r,am C0 d N.Pn [v] g=.val r/\IT 0 (S.Pq x.1) r:=by
 obtain ⟨v',e,cs,rfl,hc⟩:=jl (ch x) (by decide) d hm;obtain ⟨a,b,rfl,hA,hB⟩:=r_.1 hc;obtain ⟨rows,r1,r2,r3,r4⟩:=hA.all;have r1:∀h',ah h' 1 a=some rows:=r1;rw[oH];refine aX qp (xs:=[.agg [a,.int .u16 (x.2.1.toNat:Int),b]]) (by simp only[aE,e]) (by simp[eQ]) (aS _) (by decide) hd ?_;have hL:(S.Pq x.1).length=min x.1.length 5:=by simp[S.Pq];omega
 simp only[sz,simprocAttr,eQ,g_];refine bp (min x.1.length 5) (by omega) (λj t df g=>df=[]/\tat t 1=.hptr 0 0 0 0/\g.h.get 0=.cells 3 [[a,.int .u16 (x.2.1.toNat:Int),b]] 0 false false/\1<=g.nx/\∃u,tat t 3=u/\Own g 1 u 1 (((S.Pq x.1).take j).map ci))
  ⟨rfl,by simp[sx],by simp[sx],by simp[sx],_,rfl,.inl ⟨by simp[sx],rfl⟩⟩ (by simp[sx]) (by decide)
  (by rintro j t df g v s (rfl | rfl | rfl)<;>simp[sx]) ?_ ?_ ?_
 ·rintro j t df g hj ⟨rfl,h1,hg,hnx,u,h3,hu⟩ h4
  by_cases hlt:(j:Int)<(x.1.length:Int)
  ·have:decide ((j:Int)<((min x.1.length 5:Nat):Int))=decide ((j:Int)<5):=by congr 1;apply propext;omega
   simp only[sz,simprocAttr,h1,h4,hg,hA.len,hlt,this];exact ⟨hnx,u,h3,hu⟩
  ·have:decide ((j:Int)<((min x.1.length 5:Nat):Int))=false:=decide_eq_false (by omega);simp only[sz,simprocAttr,h1,h4,hg,hA.len,hlt,this];exact ⟨hnx,u,h3,hu⟩
 ·rintro j t df g hj ⟨rfl,h1,hg,hnx,u,h3,hu⟩ h4;obtain ⟨y,hy,-,-⟩:=ae (l:=x.1) (j:=j) (by omega);obtain ⟨z,hz,htk,-⟩:=ae (l:=S.Pq x.1) (j:=j) (by omega);have hzy:z=1+(y.toNat:Int) % 4:=by
   have:(S.Pq x.1)[j]?=some (1+(y.toNat:Int) % 4):=by simp[S.Pq,show j<5 by omega,hy]
   rw[this] at hz;injection hz with hz;exact hz.symm
  obtain ⟨row,z1,z2⟩:=r3 j y hy;rw[du.1 z2] at z1;have hlt:j<rows.length:=by omega
  have hy8:y.toNat<256:=y.toNat_lt;have m1:0<=(y.toNat:Int) % 4:=by omega
  have m2:(y.toNat:Int) % 4<4:=by omega
  simp only[sz,simprocAttr,h1,h3,h4,hg,r1,hlt,z1,gk .u8 (show (0:Int)<=(y.toNat:Int) by omega) (show (0:Int)<4 by decide),ay (show -9223372036854775808<=(y.toNat:Int) % 4 by omega) (show (y.toNat:Int) % 4<9223372036854775808 by omega),ay (show -9223372036854775808<=1+(y.toNat:Int) % 4 by omega) (show 1+(y.toNat:Int) % 4<9223372036854775808 by omega)];refine aU (new:=[ci (1+(y.toNat:Int) % 4)]) (hu.step (Fr.new _ _)) (by simp[sx,sy,ci]) (by simp) (by simp[aP];omega) λv2 g2 hv2 n2 f2 _ l2=>?_;simp only[sz,simprocAttr,h1,h4];refine ⟨?_,?_,_,rfl,?_⟩
  ·rw[f2 0 (by simp) (λe=>by have:=(hu.lt e).1;omega),G.new_h,aq _ _ _ (by omega),hg]
  ·simp at n2;omega
  ·rw[htk,hzy];simpa [ci] using hv2
 ·rintro t df g ⟨rfl,h1,hg,hnx,u,h3,hu⟩;rw[List.take_of_length_le (by omega)] at hu;simp only[sz,simprocAttr,gL,h3];exact ⟨_,hu.ints (by omega)⟩
theorem Fb {g:G}{b sz:Nat}{u:AV}{rows:List (List AV)}(hu:Own g b u sz rows){n:Nat}(hn:n<=rows.length) :
  ∃y,lR sz u none (some (.int .i64 (n:Int))) g=.val y/\ah g.h sz y=some (rows.take n):=by
 rcases hu with ⟨rfl,rfl⟩ | ⟨id,ep,lo,h1,h2,rfl,h3⟩
 ·have:n=0:=by simpa using hn
  subst this;exact ⟨.nils,rfl,rfl⟩
 ·simp only[lR,iI,h3,Nat.beq_refl,Nat.beq_refl,Bool.true_and,aw,Nat.zero_add,aa,Nat.ble_eq,Nat.le_refl,if_true,aQ,Option.getD_none,Nat.sub_zero];simp only[bZ];rw[show au (n.ble rows.length) (some n) none=some n from by rw[aa,if_pos (by simpa using hn)]];dsimp only
  by_cases h0:rows=[]
  ·subst h0;have:n=0:=by simpa using hn
   subst this;cases lo
   ·exact ⟨_,rfl,rfl⟩
   ·exact ⟨_,rfl,pi _ _ _ _⟩
  ·have hb:rows.length.beq 0=false:=by cases rows with | nil=>exact absurd rfl h0 | cons a l=>rfl
   rw[hb];refine ⟨_,rfl,?_⟩;rw[dG,h3,co,if_pos (by omega),List.drop_zero]
theorem Fc {g:G}{b sz:Nat}{u:AV}{rows:List (List AV)}(hu:Own g b u sz rows){n:Nat}(hn:n<=rows.length) :
  ∃y,lR sz u (some (.int .i64 (n:Int))) none g=.val y/\ah g.h sz y=some (rows.drop n):=by
 rcases hu with ⟨rfl,rfl⟩ | ⟨id,ep,lo,h1,h2,rfl,h3⟩
 ·have:n=0:=by simpa using hn
  subst this;exact ⟨.nils,rfl,rfl⟩
 ·simp only[lR,iI,h3,Nat.beq_refl,Nat.beq_refl,Bool.true_and,aw,Nat.zero_add,aa,Nat.ble_eq,Nat.le_refl,if_true,aQ,Option.getD_none,Nat.sub_zero];simp only[bZ];rw[show au (n.ble rows.length) (some n) none=some n from by rw[aa,if_pos (by simpa using hn)]];dsimp only
  by_cases h0:rows.length=n
  ·subst h0;rw[if_pos (Nat.beq_refl _),List.drop_length];cases lo
   ·exact ⟨_,rfl,rfl⟩
   ·exact ⟨_,rfl,pi _ _ _ _⟩
  ·rw[if_neg (λe=>h0 (Nat.eq_of_beq_eq_true e))];refine ⟨_,rfl,?_⟩;rw[dG,h3,co,if_pos (by omega),List.take_of_length_le (by simp)]
def S.Pm (os:List UInt8)(k:Nat):Nat:=if k<os.length then ((os[k]?.map UInt8.toNat).getD 0) % (k+1) else 0
def S.OX (os:List UInt8):Nat->List Int
 | 0=>[]
 | k+1=>(S.OX os k).take (S.Pm os k)++(k:Int)::(S.OX os k).drop (S.Pm os k)
theorem ox (os:List UInt8):∀k,(S.OX os k).length=k
 | 0=>rfl
 | k+1=>by simp only[S.OX,List.length_append,List.length_cons,List.length_take,List.length_drop,ox os k];omega
theorem y8 {d k:Nat}{g:G}{P:Nat->Prop}{v:AV}{x:Ea}(hd:0<d)(hm:Agg x P k g.h v) :
  ∃r,am C0 d N.OU [v] g=.val r/\IT 0 (S.OX x.2.2 (min x.1.length 5)) r:=by
 obtain ⟨v',e,cs,rfl,hc⟩:=jl (ch x) (by decide) d hm;obtain ⟨a,b,rfl,hA,hB⟩:=r_.1 hc;have hms:∀g:G,Agg x NoP (max k d) g.h (.agg [a,.int .u16 (x.2.1.toNat:Int),b]):=λg=>⟨_,rfl,r_.2 ⟨a,b,rfl,hA.tree (Nat.le_refl _),hB.tree (Nat.le_refl _)⟩⟩;obtain ⟨rows,r1,r2,r3,r4⟩:=hB.all;have r1:∀h',ah h' 1 b=some rows:=r1;rw[jn];refine aX km (xs:=[.agg [a,.int .u16 (x.2.1.toNat:Int),b]]) (by simp only[aE,e]) (by simp[cG]) (aS _) (by decide) hd ?_;have hL:(S.Pq x.1).length=min x.1.length 5:=by simp[S.Pq];omega
 simp only[sz,simprocAttr,cG,dX];refine bp (min x.1.length 5) (by omega) (λj t df g=>df=[]/\tat t 1=.hptr 0 0 0 0/\g.h.get 0=.cells 3 [[a,.int .u16 (x.2.1.toNat:Int),b]] 0 false false/\1<=g.nx/\∃u,tat t 3=u/\Own g 1 u 1 ((S.OX x.2.2 j).map ci))
  ⟨rfl,by simp[sx],by simp[sx],by simp[sx],_,rfl,.inl ⟨by simp[sx],rfl⟩⟩ (by simp[sx]) (by decide)
  (by rintro j t df g v s (rfl | rfl | rfl)<;>simp[sx]) ?_ ?_ ?_
 ·rintro j t df g hj ⟨rfl,h1,hg,hnx,u,h3,hu⟩ h4;simp only[sz,simprocAttr,h1,h4,hg];refine a_ (Hi (Nat.succ_pos d) (hms _)) λr hr=>?_;simp only[sz,simprocAttr,h1,h4,hg,(hr.sl .nil).len,hL];exact ⟨hnx,u,h3,hu⟩
 ·rintro j t df g hj ⟨rfl,h1,hg,hnx,u,h3,hu⟩ h4;have hpl:((S.OX x.2.2 j).map ci).length=j:=by rw[List.length_map,ox]
  have hle:S.Pm x.2.2 j<=j:=by
   unfold S.Pm;split
   ·have:=Nat.mod_lt (((x.2.2)[j]?.map UInt8.toNat).getD 0) (show 0<j+1 by omega);omega
   ·omega
  have key:∀(t:T) (Q:QT),tat t 1=.hptr 0 0 0 0->tat t 3=u->tat t 4=.int .i64 (j:Int)->tat t 5=.int .i64 (S.Pm x.2.2 j:Int) ->
    (∀(t':T) (g':G),tat t' 1=.hptr 0 0 0 0->tat t' 4=.int .i64 (j:Int)->g'.h.get 0=.cells 3 [[a,.int .u16 (x.2.1.toNat:Int),b]] 0 false false->1<=g'.nx->(∃u,tat t' 3=u/\Own g' 1 u 1 ((S.OX x.2.2 (j+1)).map ci))->Q .norm t' [] g') ->
    wp C0 (d+1) none bT Q t [] g:=by
   intro t Q h1 h3 h4 h5 kk;obtain ⟨y1,s1,w1⟩:=Fb hu (n:=S.Pm x.2.2 j) (by omega);simp only[sz,simprocAttr,bT,h3,h5,List.head?_nil,List.head?_cons,s1];refine aU (rows:=[]) (b:=1) (.inl ⟨rfl,rfl⟩) w1 hnx (by simp[aP];omega) λv1 g1 hv1 n1 f1 vid1 _=>?_;simp only[sz,simprocAttr,h4];refine aU (new:=[ci (j:Int)]) (hv1.step (Fr.new _ _)) (by simp[sx,sy,ci]) (by simp) (by simp[aP,ox];omega) λv2 g2 hv2 n2 f2 vid2 _=>?_;have hu1:Own g1 1 u 1 ((S.OX x.2.2 j).map ci):=hu.fr n1 λi hi=>f1 i (hu.lt hi).2 (by simp[vid]);have hnv:∀i,i<g.nx->vid v1≠some i:=λi hi e=>by
    rcases vid1 with h | ⟨i',h,hi'⟩
    ·rw[h] at e;cases e
    ·rw[h] at e;injection e with e;omega
   have hu2:Own g2 1 u 1 ((S.OX x.2.2 j).map ci):=hu1.fr (by simp at n2;omega) λi hi=>by have hlt:=(hu.lt hi).2;rw[f2 i (by simp;omega) (hnv i hlt),G.new_h,aq _ _ _ (by omega)]
   obtain ⟨y2,s2,w2⟩:=Fc hu2 (n:=S.Pm x.2.2 j) (by omega);simp only[sz,simprocAttr,h3,h5,List.head?_nil,List.head?_cons,s2];refine aU hv2 w2 (by simp at n2;omega) (by simp[aP,ox];omega) λv3 g3 hv3 n3 f3 _ _=>?_;simp only[sz,simprocAttr];refine kk _ _ (by simp[sx,h1]) (by simp[sx,h4]) ?_ (by simp at n2;omega) ⟨_,rfl,?_⟩
   ·rw[f3 0 (by simp at n2;omega) (λe=>by have:=(hv2.lt e).1;omega),f2 0 (by simp) (hnv 0 (by omega)),G.new_h,aq _ _ _ (by omega),f1 0 (by omega) (by simp[vid]),hg]
   ·simp only[sx,↓reduceIte];simpa [S.OX,List.map_take,List.map_drop] using hv3
  simp only[sz,simprocAttr,h1,h4,hg,hB.len];refine aZ (λhb=>?_) (λhb=>?_)
  ·have hjo:j<x.2.2.length:=by simp at hb;omega
   obtain ⟨y,hy⟩:∃y,x.2.2[j]?=some y:=⟨_,List.getElem?_eq_getElem hjo⟩;obtain ⟨row,z1,z2⟩:=r3 j y hy;rw[du.1 z2] at z1;have hy8:y.toNat<256:=y.toNat_lt;have hlt:j<rows.length:=by omega
   have hat:((S.Pm x.2.2 j:Nat):Int)=(y.toNat:Int) % ((j:Int)+1):=by unfold S.Pm;rw[if_pos hjo,hy];simp
   simp only[sz,simprocAttr,h1,h4,hg,r1,hlt,z1,ay (show -9223372036854775808<=(y.toNat:Int) by omega) (show (y.toNat:Int)<9223372036854775808 by omega),ay (show -9223372036854775808<=(j:Int)+1 by omega) (show (j:Int)+1<9223372036854775808 by omega),gk .i64 (show (0:Int)<=(y.toNat:Int) by omega) (show 0<(j:Int)+1 by omega)];refine key _ _ (by simp[sx,h1]) (by simp[sx,h3]) (by simp[sx,h4]) (by simp[sx,hat]) λt' g' e1 e4 e0 en eu=>?_;simp only[sy,e1,e4,e0];exact ⟨en,eu⟩
  ·have hat:S.Pm x.2.2 j=0:=by unfold S.Pm;rw[if_neg];simp at hb;omega
   simp only[sx];refine key _ _ (by simp[sx,h1]) (by simp[sx,h3]) (by simp[sx,h4]) (by simp[sx,hat]) λt' g' e1 e4 e0 en eu=>?_;simp only[sy,e1,e4,e0];exact ⟨en,eu⟩
 ·rintro t df g ⟨rfl,h1,hg,hnx,u,h3,hu⟩;simp only[sz,simprocAttr,dK,h3];exact ⟨_,hu.ints (by rw[ox];omega)⟩
def S.PS (cards:List Int):List Int->Nat->List Int×Bool
 | vals,0=>(vals,false)
 | vals,k+1=>if (vals[k]?.getD 0)+1<(cards[k]?.getD 0) then (vals.set k ((vals[k]?.getD 0)+1),true) else S.PS cards (vals.set k 0) k
def S.PQ (cards vals:List Int):List Int×Bool:=S.PS cards vals vals.length
def S.PN (cards:List Int):Nat->List Int->List (List Int)
 | 0,_=>[]
 | f+1,v=>v::(if (S.PQ cards v).2 then S.PN cards f (S.PQ cards v).1 else [])
def S.P8 (cards:List Int):List (List Int):=S.PN cards (S.OH cards).toNat (List.replicate cards.length 0)
def S.Pg (l:List Int)(h:Int):Int:=l.foldr (λc q=>q / c) h
def S.Pc (l:List Int)(h:Int)(i:Nat):Int:=S.Pg (l.drop (i+1)) h % l[i]?.getD 1
def S.ON (l:List Int)(h:Int):List Int:=(List.range l.length).map (S.Pc l h)
theorem GB {l:List Int}{h:Int}(hl:∀c∈l,0<c)(hh:0<=h):0<=S.Pg l h/\S.Pg l h<=h:=by
 induction l with
 | nil=>exact ⟨hh,Int.le_refl _⟩
 | cons c l ih =>
  obtain ⟨a,b⟩:=ih λx hx=>hl x (by simp[hx]);have hc:=hl c (by simp);show 0<=S.Pg l h / c/\S.Pg l h / c<=h;exact ⟨Int.ediv_nonneg a (by omega),Int.le_trans (Int.ediv_le_self _ a) b⟩
theorem H7 {d k:Nat}{g:G}{P:Nat->Prop}{v:AV}{l:List Int}{h:Int}(hd:0<d)(hv:SlR P k g.h l v)(hl:l.length<=1000)(hc:∀c∈l,0<c)(hh:0<=h/\h<9223372036854775808) :
  ∃r,am C0 d N.Pq [v,.int .i64 h] g=.val r/\IT 0 (S.ON l h) r:=by
 obtain ⟨v',e,r1⟩:=be hv d;rw[ud];refine aX w_ (xs:=[v',.int .i64 h]) (by simp only[aE,e,bD 0]) (by simp[kI]) (aS _) (by decide) hd ?_;have vl:∀g,cV .slice v' g=.val (.int .i64 (l.length:Int)):=λg=>(r1 .nil).len g;simp only[sz,simprocAttr,kI,vl];refine rR (b:=0) (n:=l.length) (by simp[aP];omega) (by simp[aP];omega) (by simp) λu g1 hu n1 f1 v1=>?_;simp only[sz,simprocAttr,vl,ay (show -9223372036854775808<=(l.length:Int) - 1 by omega) (show (l.length:Int) - 1<9223372036854775808 by omega)];refine rH (m:=l.length) (by omega) (λj t df g=>df=[]/\St t [(0,v'),(1,.int .i64 (S.Pg (l.drop j) h)),(5,u)]/\Own g 0 u 1 (((List.range l.length).map λi=>if j<=i then S.Pc l h i else 0).map ci))
  ⟨rfl,by simp[sx,St,S.Pg],?_⟩ (by simp[sx]) (by decide) (by rintro j t df g v s (rfl | rfl | rfl | rfl | rfl)<;>simp[sx,St]) ?_ ?_
 ·have:((List.range l.length).map λi=>if l.length<=i then S.Pc l h i else 0).map ci=List.replicate l.length [AV.int .i64 0]:=by
   refine List.ext_getElem (by simp) λi h1 h2=>?_;have:i<l.length:=by simpa using h1
   simp[ci];omega
  rw[this];exact hu
 ·rintro j t df g hj ⟨rfl,⟨h0,h1,h5,-⟩,ho⟩ h6;obtain ⟨c,hcj,-,hm⟩:=ae (l:=l) (j:=j) hj;have hc0:=hc c hm;obtain ⟨q0,q1⟩:=GB (l:=l.drop (j+1)) (h:=h) (λx hx=>hc x (List.mem_of_mem_drop hx)) hh.1;have hlt:j<(((List.range l.length).map λi=>if j+1<=i then S.Pc l h i else 0).map ci).length:=by simp;omega
  have hrow:(((List.range l.length).map λi=>if j+1<=i then S.Pc l h i else 0).map ci)[j]?=some (ci 0):=by rw[List.getElem?_map,List.getElem?_map,List.getElem?_range hj];show some (ci (if j+1<=j then _ else 0))=_;rw[if_neg (by omega)]
  have hcl:(l.map ci)[j]?=some (ci c):=by rw[List.getElem?_map,hcj];rfl
  have hlm:j<(l.map ci).length:=by simpa using hj
  have hdj:S.Pg (l.drop j) h=S.Pg (l.drop (j+1)) h / c:=by
   have:l.drop j=c::l.drop (j+1):=by rw[List.drop_eq_getElem_cons hj];congr 1;rw[List.getElem?_eq_getElem hj] at hcj;injection hcj
   rw[this];rfl
  have hdig:S.Pc l h j=S.Pg (l.drop (j+1)) h % c:=by rw[S.Pc,hcj];rfl
  simp only[sz,simprocAttr,h0,h1,h5,h6,ho.rows,hlt,(r1 g.h).ints,hcl,hlm,ci,gk .i64 q0 hc0];refine cN (row:=ci 0) (row':=ci (S.Pc l h j)) ho hrow rfl rfl (by rw[hdig];rfl) λg2 o2 n2 f2=>?_;have e2:(((List.range l.length).map λi=>if j+1<=i then S.Pc l h i else 0).map ci).set j (ci (S.Pc l h j))=((List.range l.length).map λi=>if j<=i then S.Pc l h i else 0).map ci:=by
   refine List.ext_getElem (by simp) λi h1 h2=>?_;rw[List.getElem_set];simp only[List.getElem_map,List.getElem_range]
   split
   ·rename_i hi;subst hi;rw[if_pos (Nat.le_refl _)]
   ·rename_i hi
    by_cases hji:j+1<=i
    ·rw[if_pos hji,if_pos (by omega)]
    ·rw[if_neg hji,if_neg (by omega)]
  rw[e2] at o2;simp only[sz,simprocAttr,h0,h1,h5,h6,(r1 g2.h).ints,hcl,hlm,ci,FG .i64 q0 hc0,<-hdj,St];have hb:=GB (l:=l.drop j) (h:=h) (λx hx=>hc x (List.mem_of_mem_drop hx)) hh.1;refine ⟨?_,o2⟩;rw[ay (by omega) (by omega)]
 ·rintro t df g ⟨rfl,⟨h0,h1,h5,-⟩,ho⟩;simp only[sz,simprocAttr,l_,h5];have:((List.range l.length).map λi=>if 0<=i then S.Pc l h i else 0)=S.ON l h:=by simp[S.ON]
  rw[this] at ho;exact ⟨λ_=>True,ho.ints (by simp[S.ON];omega)⟩
def S.OK:List Int->List Int->Int
 | _::cs,v::vs=>v*S.OH cs+S.OK cs vs
 | _,_=>0
def InC (cards vals:List Int):Prop:=All2 (λc v=>(0:Int)<=v/\v<c) cards vals
theorem iD:∀{cards vals:List Int},(∀c∈cards,1<=c/\c<=4)->InC cards vals->0<=S.OK cards vals/\S.OK cards vals<S.OH cards
 | [],[],_,_=>⟨Int.le_refl _,by decide⟩
 | c::cs,v::vs,hc,h=>by obtain ⟨a,b⟩:=iD (cards:=cs) (vals:=vs) (λx hx=>hc x (by simp[hx])) h.2;obtain ⟨p1,-⟩:=bV (l:=cs) λx hx=>hc x (by simp[hx]);have hv:=h.1;rw[cM];show 0<=v*S.OH cs+S.OK cs vs/\v*S.OH cs+S.OK cs vs<c*S.OH cs;have h1:0<=v*S.OH cs:=Int.mul_nonneg hv.1 (by omega);have h2:(v+1)*S.OH cs<=c*S.OH cs:=Int.mul_le_mul_of_nonneg_right (by omega) (by omega);rw[Int.add_mul,Int.one_mul] at h2;omega
 | [],_::_,_,h=>h.elim
 | _::_,[],_,h=>h.elim
theorem InC.drop:∀{cards vals:List Int} (j:Nat),InC cards vals->InC (cards.drop j) (vals.drop j)
 | _,_,0,h=>h
 | [],[],j+1,_=>trivial
 | _::_,_::_,j+1,h=>InC.drop j h.2
 | [],_::_,_,h=>h.elim
 | _::_,[],_,h=>h.elim
theorem InC.len {cards vals:List Int}(h:InC cards vals):vals.length=cards.length:=(All2.len h).symm
theorem Jf {d k k2:Nat}{g:G}{P P2:Nat->Prop}{v w:AV}{cards vals:List Int}(hd:0<d)(hv:SlR P k g.h cards v)(hw:SlR P2 k2 g.h vals w)(hl:cards.length<=13)(hc:∀c∈cards,1<=c/\c<=4)(hin:InC cards vals) :
  am C0 d N.Po [v,w] g=.val (.int .i64 (S.OK cards vals)):=by
 obtain ⟨v',e,r1⟩:=be hv d;obtain ⟨w',e2,r2⟩:=be hw d;have hvl:=hin.len;rw[vp];refine dE yu (xs:=[v',w']) (by simp only[aE,e,e2]) (by simp[mN]) hd ?_;have vl:∀g,cV .slice v' g=.val (.int .i64 (cards.length:Int)):=λg=>(r1 .nil).len g;simp only[sz,simprocAttr,mN,vl,ay (show -9223372036854775808<=(cards.length:Int) - 1 by omega) (show (cards.length:Int) - 1<9223372036854775808 by omega)];refine rH (m:=cards.length) (by omega) (λj t df g=>df=[]/\St t [(0,v'),(1,w'),(5,.int .i64 (S.OK (cards.drop j) (vals.drop j))),(6,.int .i64 (S.OH (cards.drop j)))])
  ⟨rfl,?_⟩ (by simp[sx]) (by decide) (by rintro j t df g v s (rfl | rfl | rfl | rfl | rfl)<;>simp[sx,St]) ?_ ?_
 ·simp[sx,St,S.OK,S.OH]
 ·rintro j t df g hj ⟨rfl,⟨h0,h1,h5,h6,-⟩⟩ h7;obtain ⟨c,hcj,-,hm⟩:=ae (l:=cards) (j:=j) hj;obtain ⟨x,hxj,-,-⟩:=ae (l:=vals) (j:=j) (by omega);have dc:cards.drop j=c::cards.drop (j+1):=by rw[List.drop_eq_getElem_cons hj];rw[List.getElem?_eq_getElem hj] at hcj;injection hcj with hcj;rw[hcj]
  have dv:vals.drop j=x::vals.drop (j+1):=by rw[List.drop_eq_getElem_cons (by omega)];rw[List.getElem?_eq_getElem (by omega)] at hxj;injection hxj with hxj;rw[hxj]
  have hd0:=hin.drop j;have hcd:∀y∈cards.drop j,1<=y/\y<=4:=λy hy=>hc y (List.mem_of_mem_drop hy);have hb0:=iD hcd hd0;obtain ⟨p1,p2⟩:=bV hcd;have hb1:=iD (λy hy=>hc y (List.mem_of_mem_drop hy)) (hin.drop (j+1));obtain ⟨q1,q2⟩:=bV (l:=cards.drop (j+1)) λy hy=>hc y (List.mem_of_mem_drop hy);have pw:∀n,n<=13->(4:Int) ^ n<=67108864:=λn hn=>by
   have:=iF hn;have e:(4:Int) ^ 13=67108864:=by decide
   omega
  have pw1:=pw (cards.drop j).length (by simp;omega);rw[dc,dv] at hb0 hd0;rw[dc] at p1 p2 pw1;have hx0:0<=x/\x<c:=hd0.1;have hmul:0<=x*S.OH (cards.drop (j+1)):=Int.mul_nonneg hx0.1 (by omega);rw[cM] at hb0 p1 p2;have hb0:0<=x*S.OH (cards.drop (j+1))+S.OK (cards.drop (j+1)) (vals.drop (j+1))/\x*S.OH (cards.drop (j+1))+S.OK (cards.drop (j+1)) (vals.drop (j+1))<c*S.OH (cards.drop (j+1)):=hb0;have hlm:j<(cards.map ci).length:=by simpa using hj
  have hlv:j<(vals.map ci).length:=by rw[List.length_map];omega
  have hcl:(cards.map ci)[j]?=some (ci c):=by rw[List.getElem?_map,hcj];rfl
  have hxl:(vals.map ci)[j]?=some (ci x):=by rw[List.getElem?_map,hxj];rfl
  have hcm:S.OH (cards.drop (j+1))*c=c*S.OH (cards.drop (j+1)):=Int.mul_comm _ _;simp only[sz,simprocAttr,h0,h1,h5,h6,h7,(r1 g.h).ints,(r2 g.h).ints,hcl,hlm,hlv,hxl,ci,ay (show -9223372036854775808<=x*S.OH (cards.drop (j+1)) by omega) (show x*S.OH (cards.drop (j+1))<9223372036854775808 by omega),ay (show -9223372036854775808<=S.OK (cards.drop (j+1)) (vals.drop (j+1))+x*S.OH (cards.drop (j+1)) by omega) (show S.OK (cards.drop (j+1)) (vals.drop (j+1))+x*S.OH (cards.drop (j+1))<9223372036854775808 by omega),ay (show -9223372036854775808<=S.OH (cards.drop (j+1))*c by omega) (show S.OH (cards.drop (j+1))*c<9223372036854775808 by omega),St];refine ⟨?_,?_⟩
  ·rw[dc,dv];show AV.int .i64 (_+_)=AV.int .i64 (x*S.OH (cards.drop (j+1))+S.OK _ _);rw[Int.add_comm]
  ·rw[dc,cM,hcm]
 ·rintro t df g ⟨rfl,⟨h0,h1,h5,h6,-⟩⟩;simp only[sz,simprocAttr,nI,h5]
theorem se {l:List Int}(hc:∀c∈l,1<=c/\c<=4)(hl:l.length<=13):S.Pd l=S.OH l:=by
 have pw:∀n,n<=13->(4:Int) ^ n<=67108864:=λn hn=>by
  have:=iF hn;have e:(4:Int) ^ 13=67108864:=by decide
  omega
 have key:∀j,j<=l.length->S.Pd (l.take j)=S.OH (l.take j):=by
  intro j
  induction j with
  | zero=>intro _;rfl
  | succ j ih =>
   intro hj;obtain ⟨x,hx,htk,hm⟩:=ae (l:=l) (j:=j) (by omega);have ih:=ih (by omega);have hb:=bV (l:=l.take (j+1)) λy hy=>hc y (List.mem_of_mem_take hy);have:=pw (l.take (j+1)).length (by simp;omega);rw[htk] at hb this ⊢;rw[rU] at hb ⊢;show S.Pd (l.take j++[x])=_;unfold S.Pd at ih ⊢;rw[List.foldl_append,ih];show IntKind.wrap .i64 (S.OH (l.take j)*x)=_;rw[ay (by omega) (by omega)]
 have:=key l.length (Nat.le_refl _);rwa [List.take_length] at this
end
end Hx
end
section
namespace Hx
open Go
def S.P4 (x:Mech)(roots:List Int)(V:Nat->Int):List Int:=(x.frm.map λq=>V q.toNat)++(x.noise.map λr=>roots[r.toNat]?.getD 0)
def S.PV (m:Causal)(roots act:List Int)(V:Nat->Int)(i:Nat)(x:Mech):Int:=if 0<=act[i]?.getD 0 then act[i]?.getD 0 else x.out[(S.OK (S.P7 m x) (S.P4 x roots V)).toNat]?.getD 0
def Sol (m:Causal)(roots act:List Int)(V:Nat->Int):Prop:=∀(i:Nat) (x:Mech),m.nodes[i]?=some x->V i=S.PV m roots act V i x
noncomputable def S.V (m:Causal)(roots act:List Int):Nat->Int:=Classical.epsilon (Sol m roots act)
noncomputable def S.P9 (m:Causal)(roots act:List Int):List Int:=(List.range m.nodes.length).map (S.V m roots act)
theorem Bz {cards vals:List Int}(hl:cards.length=vals.length)(h:∀(i:Nat) c v,cards[i]?=some c->vals[i]?=some v->0<=v/\v<c):InC cards vals:=by
 induction cards generalizing vals with
 | nil=>cases vals with
  | nil=>trivial
  | cons v vals=>simp at hl
 | cons c cards ih=>cases vals with
  | nil=>simp at hl
  | cons v vals=>exact ⟨h 0 c v rfl rfl,ih (by simpa using hl) λi c' v' h1 h2=>h (i+1) c' v' (by simpa using h1) (by simpa using h2)⟩
theorem InC.get {cards vals:List Int}(h:InC cards vals){i:Nat}{c:Int}(hc:cards[i]?=some c):∃v,vals[i]?=some v/\0<=v/\v<c:=All2.get h hc
def S.PC (cs vs:List Int)(a:Int):Int:=(cs.zip vs).foldl (λa p=>a*p.1+p.2) a
theorem tE:∀(cs vs:List Int) (a:Int),cs.length=vs.length->S.PC cs vs a=a*S.OH cs+S.OK cs vs
 | [],[],a,_=>by simp[S.PC,S.OH,S.OK]
 | c::cs,v::vs,a,h=>by show S.PC cs vs (a*c+v)=_;rw[tE cs vs _ (by simpa using h),cM];show _=_+(v*S.OH cs+S.OK cs vs);rw[Int.add_mul,Int.mul_assoc,Int.add_assoc]
 | [],_::_,_,h=>by simp at h
 | _::_,[],_,h=>by simp at h
end Hx
end
section
namespace Hx
open Go
noncomputable section
def hz (cs vs:List Int)(j:Nat):Int:=((cs.zip vs).take j).foldl (λa p=>a*p.1+p.2) 0
theorem InC.take {cards vals:List Int}(h:InC cards vals)(j:Nat):InC (cards.take j) (vals.take j):=All2.take h j
section
variable {d k:Nat}{m:Causal}{roots act:List Int}{V:Nat->Int}{a b w u:AV}{p1 p2 p3 p4 iu:Nat}{hid:Int}{r:Nat->Nat}
end
end
end Hx
end
section
namespace Hx
open Go
noncomputable section
theorem eJ (ag:Bool)(n l sz off:Nat)(row:List AV)(g:G):pN ag n (.tptr l sz [row] 0 off) g=orV (bG ag n row off):=rfl
section
variable {d:Nat}{m:Causal}{a b:AV}
end
end
end Hx
end
section
namespace Hx
open Go
noncomputable section
theorem rN {C:Cfg}{d:Nat}{r:List SR}{t:T}{g:G}{K:AV->G->Prop}{id:Nat}(hg:g.h.get id=.dfr true)(h:xn r t (g.put id (.dfr false)) λvs=>K (jc vs) (g.put id (.dfr false))):Bn C d r t [.mark id] g K:=by
 unfold Bn;have:eN (I C) d [.mark id] g=some (g.put id (.dfr false)):=by simp only[eN,G.get_eq,hg]
 rw[this];exact h
def Fam (g:G)(b K:Nat)(V:Nat->AV)(W:Nat->List (List AV)):Prop :=
 (∀k,k<K->Own g b (V k) 1 (W k))/\∀k l,k<K->l<K->k≠l->∀id,vid (V k)=some id->vid (V l)≠some id
def OF (c:Nat->Int)(V:Nat->AV)(i:Nat):List AV:=[.int .i64 (c i),V (3*i+1),V (3*i+2),V (3*i+3)]
def J_ (n:Nat)(c:Nat->Int)(V:Nat->AV):List (List AV):=(List.range n).map (OF c V)
structure ME where
 (n p4 q i5 p7 i9 b:Nat)
 (nv w5 w9 e7:AV)
 (gr:Int)
 (row0:List AV)
 (prow:List (List AV))
 (us:List UInt8)
structure ME.Ok (e:ME):Prop where
 ord:1<e.q/\e.q<e.p4/\e.p4<e.i5/\e.i5<e.p7/\e.p7<e.i9/\e.i9<e.b
 n1:1<=e.n/\e.n<=4
 g1:2<=e.gr/\e.gr<=12
 vn:vid e.nv=some e.q
 v5:vid e.w5=some e.i5
 v9:vid e.w9=some e.i9
 l7:SlR NoP 0 .nil e.us e.e7
structure MI (e:ME) (g:G) (V:Nat->AV) (W:Nat->List (List AV)) (c:Nat->Int) (ow:List Bool) (cap:Nat):Prop where
 h0:g.h.get 0=.cells 5 [e.row0] 0 false false
 h1:g.h.get 1=.cells 3 [[.int .i64 0,.nils,.nils]] 0 false false
 hN:Own g 0 e.nv 4 (J_ e.n c V)
 h4:g.h.get e.p4=.cells 3 [[.int .i64 e.gr,V 0,e.nv]] 0 false false
 h5:Own g 0 e.w5 4 e.prow
 h7:∃cc:Int,0<=cc/\cc<=(cap:Int)/\g.h.get e.p7=.cells 2 [[e.e7,.int .i64 cc]] 0 false false
 h9:Own g 0 e.w9 1 (ow.map λx=>[.bool x])
 fam:Fam g e.b (3*e.n+1) V W
 nx:e.b<=g.nx
section
variable {e:ME}{g g':G}{V:Nat->AV}{W:Nat->List (List AV)}{c:Nat->Int}{ow:List Bool}{cap:Nat}
theorem my {v:AV}{i j:Nat}(h:vid v=some i)(h':vid v=some j):i=j:=by rw[h] at h';injection h'
structure MP (e:ME) (g:G) (V V':Nat->AV) (W:Nat->List (List AV)) (c:Nat->Int) (ow:List Bool) (cap:Nat):Prop where
 h0:g.h.get 0=.cells 5 [e.row0] 0 false false
 h1:g.h.get 1=.cells 3 [[.int .i64 0,.nils,.nils]] 0 false false
 hN:Own g 0 e.nv 4 (J_ e.n c V)
 h4:g.h.get e.p4=.cells 3 [[.int .i64 e.gr,V 0,e.nv]] 0 false false
 h5:Own g 0 e.w5 4 e.prow
 h7:∃cc:Int,0<=cc/\cc<=(cap:Int)/\g.h.get e.p7=.cells 2 [[e.e7,.int .i64 cc]] 0 false false
 h9:Own g 0 e.w9 1 (ow.map λx=>[.bool x])
 fam:Fam g e.b (3*e.n+1) V' W
 nx:e.b<=g.nx
end
end
end Hx
end
section
namespace Hx
open Go
noncomputable section
structure MD (e:ME) (W:Nat->List (List AV)) (R:List (List Int)) (F N O:Nat->List Int):Prop where
 r:All2 (Rp.rp NoP 0 .nil) R (W 0)
 f:∀i,i<e.n->W (3*i+1)=(F i).map ci
 n:∀i,i<e.n->W (3*i+2)=(N i).map ci
 o:∀i,i<e.n->W (3*i+3)=(O i).map ci
theorem LL {g:G}{b:Nat}(hb:b<=g.nx)(cs:List AV):Own (g.new (.cells 1 [cs] 0 false false)) b (.hsl g.nx 0 0 1 none) 1 [cs] :=
 .inr ⟨g.nx,0,false,hb,by simp,rfl,by simp[aR]⟩
theorem uV {α β γ:Type}{R:β->γ->Prop}{f:α->β}{h:α->γ}:∀{l:List α},(∀x∈l,R (f x) (h x))->All2 R (l.map f) (l.map h)
 | [],_=>trivial
 | a::l,hl=>⟨hl a (by simp),uV λx hx=>hl x (by simp[hx])⟩
theorem SlR.wide {α:Type} [Rp α]{P:Nat->Prop}{k k':Nat}{h h':H}{l:List α}{v:AV}(r:SlR NoP k h l v)(hk:k<=k'):SlR P k' h' l v:=by obtain ⟨w,hw,q⟩:=Rp.tree (P:=P) (k':=k') (h':=h') (show Rp.rp NoP k h l [v] from ⟨v,rfl,r⟩) hk;injection hw with hw;subst hw;exact q
structure M0 (n p4 q i5 p7:Nat) (nv w5 cl:AV) (row0:List AV) (prow:List (List AV)) (gr:Int) (g:G) (cf:Nat->Int):Prop where
 h0:g.h.get 0=.cells 5 [row0] 0 false false
 h1:g.h.get 1=.cells 3 [[.int .i64 0,.nils,.nils]] 0 false false
 hN:Own g 2 nv 4 (J_ n cf λ_=>.nils)
 h4:g.h.get p4=.cells 3 [[.int .i64 gr,.nils,nv]] 0 false false
 h5:Own g 2 w5 4 prow
 h7:g.h.get p7=.cells 2 [[cl,.int .i64 0]] 0 false false
 nx:p7<g.nx
section
variable {n p4 q i5 p7:Nat}{nv w5 cl:AV}{row0:List AV}{prow:List (List AV)}{gr:Int}{g g':G}{cf cf':Nat->Int}
end
end
end Hx
end
section
namespace Hx
open Go
noncomputable section
def eid:AV->Option Nat
 | .hsl id _ _ _ _=>some id
 | .hptr id _ _ _=>some id
 | _=>none
def Bx (g:G)(b:Nat)(v:AV)(row:List AV):Prop:=∃id,b<=id/\id<g.nx/\v=.hptr id 0 0 0/\g.h.get id=.cells row.length [row] 0 false false
inductive En where
 | sl (sz:Nat) (rows:List (List AV))
 | bx (row:List AV)
def En.ok (g:G)(b:Nat)(v:AV):En->Prop
 | .sl sz rows=>Own g b v sz rows
 | .bx row=>Bx g b v row
theorem bH {g:G}{b:Nat}{v:AV}{sz:Nat}{rows:List (List AV)}(h:Own g b v sz rows):eid v=vid v:=by rcases h with ⟨rfl,-⟩ | ⟨id,ep,lo,h1,h2,rfl,h3⟩<;>rfl
theorem En.lt {g:G}{b:Nat}{v:AV}{e:En}(h:e.ok g b v){i:Nat}(hi:eid v=some i):b<=i/\i<g.nx:=by
 cases e with
 | sl sz rows =>
  have h:Own g b v sz rows:=h;rw[bH h] at hi;exact h.lt hi
 | bx row =>
  obtain ⟨id,h1,h2,rfl,h3⟩:=h;injection hi with hi;subst hi;exact ⟨h1,h2⟩
theorem En.fr {g g':G}{b:Nat}{v:AV}{e:En}(h:e.ok g b v)(hn:g.nx<=g'.nx)(hf:∀i,eid v=some i->g'.h.get i=g.h.get i):e.ok g' b v:=by
 cases e with
 | sl sz rows =>
  have h:Own g b v sz rows:=h;exact h.fr hn λi hi=>hf i (by rw[bH h];exact hi)
 | bx row =>
  obtain ⟨id,h1,h2,rfl,h3⟩:=h;exact ⟨id,h1,by omega,rfl,by rw[hf id rfl,h3]⟩
section
variable {κ:Type}
structure Hp (g:G) (b:Nat) (L:κ->Prop) (V:κ->AV) (E:κ->En):Prop where
 ok:∀k,L k->(E k).ok g b (V k)
 sep:∀k l,L k->L l->k≠l->∀id,eid (V k)=some id->eid (V l)≠some id
 nx:b<=g.nx
variable {g g':G}{b:Nat}{L L':κ->Prop}{V:κ->AV}{E:κ->En}{k:κ}
theorem Hp.sub (h:Hp g b L V E)(hl:∀k,L' k->L k):Hp g b L' V E:=⟨λk hk=>h.ok k (hl k hk),λk l hk hl2=>h.sep k l (hl k hk) (hl l hl2),h.nx⟩
theorem Hp.step (h:Hp g b L V E)(hn:g.nx<=g'.nx)(hf:∀i,b<=i->i<g.nx->g'.h.get i=g.h.get i):Hp g' b L V E :=
 ⟨λk hk=>En.fr (h.ok k hk) hn λi hi=>hf i (En.lt (h.ok k hk) hi).1 (En.lt (h.ok k hk) hi).2,h.sep,Nat.le_trans h.nx hn⟩
theorem Hp.same (h:Hp g b L V E)(hf:g'.h=g.h)(hn:g.nx<=g'.nx):Hp g' b L V E:=h.step hn λi _ _=>by rw[hf]
theorem Hp.own (h:Hp g b L V E)(hk:L k){sz:Nat}{rows:List (List AV)}(he:E k=.sl sz rows):Own g b (V k) sz rows:=by have:=h.ok k hk;rw[he] at this;exact this
theorem Hp.box (h:Hp g b L V E)(hk:L k){row:List AV}(he:E k=.bx row):Bx g b (V k) row:=by have:=h.ok k hk;rw[he] at this;exact this
end
section
variable {κ:Type} [DecidableEq κ]
def ups {α:Type}(f:κ->α)(k:κ)(x:α):κ->α:=λj=>if j=k then x else f j
theorem an {α:Type}(f:κ->α)(k:κ)(x:α):ups f k x k=x:=if_pos rfl
theorem ac {α:Type}(f:κ->α){k j:κ}(x:α)(h:j≠k):ups f k x j=f j:=if_neg h
theorem KI {α:Type}{f:κ->α}{k:κ}{x:α}(h:f k=x):ups f k x=f:=by
 funext j;by_cases e:j=k
 ·subst e;rw[an,h]
 ·exact ac _ _ e
variable {g g':G}{b:Nat}{L L':κ->Prop}{V:κ->AV}{E:κ->En}{k:κ}
theorem Hp.set (h:Hp g b L V E){v':AV}{e':En}(hk:L k)(ho:e'.ok g' b v')(hn:g.nx<=g'.nx)(hf:∀i,b<=i->i<g.nx->eid (V k)≠some i->g'.h.get i=g.h.get i)
  (hv:eid v'=eid (V k)\/∃i,eid v'=some i/\g.nx<=i):Hp g' b L (ups V k v') (ups E k e'):=by
 refine ⟨λj hj=>?_,λj l hj hl hne id e1 e2=>?_,Nat.le_trans h.nx hn⟩
 ·by_cases e:j=k
  ·subst e;rw[an,an];exact ho
  ·rw[ac _ _ e,ac _ _ e];exact En.fr (h.ok j hj) hn λi hi=>hf i (En.lt (h.ok j hj) hi).1 (En.lt (h.ok j hj) hi).2 λe2=>h.sep j k hj hk e i hi e2
 ·have key:∀j,L j->j≠k->∀id,eid (V j)=some id->eid v'≠some id:=λj hj hne id e1 e2=>by
   rcases hv with hv | ⟨i,hv,hi⟩
   ·exact h.sep j k hj hk hne id e1 (hv ▸ e2)
   ·rw[hv] at e2;injection e2 with e2;have:=(En.lt (h.ok j hj) e1).2;omega
  by_cases a:j=k
  ·subst a;rw[an] at e1;rw[ac _ _ (Ne.symm hne)] at e2;exact key l hl (Ne.symm hne) id e2 e1
  ·rw[ac _ _ a] at e1
   by_cases c:l=k
   ·subst c;rw[an] at e2;exact key j hj a id e1 e2
   ·rw[ac _ _ c] at e2;exact h.sep j l hj hl hne id e1 e2
theorem Hp.add (h:Hp g b L V E){v':AV}{e':En}(hk:¬L k)(ho:e'.ok g' b v')(hn:g.nx<=g'.nx)(hf:∀i,b<=i->i<g.nx->g'.h.get i=g.h.get i)
  (hv:∀i,eid v'=some i->g.nx<=i) (hl:∀j,L' j->L j\/j=k):Hp g' b L' (ups V k v') (ups E k e'):=by
 refine ⟨λj hj=>?_,λj l hj hl2 hne id e1 e2=>?_,Nat.le_trans h.nx hn⟩
 ·rcases hl j hj with hj | rfl
  ·have e:j≠k:=λe=>hk (e ▸ hj);rw[ac _ _ e,ac _ _ e];exact En.fr (h.ok j hj) hn λi hi=>hf i (En.lt (h.ok j hj) hi).1 (En.lt (h.ok j hj) hi).2
  ·rw[an,an];exact ho
 ·have key:∀j,L j->∀id,eid (V j)=some id->eid v'≠some id:=λj hj id e1 e2=>by have:=hv id e2;have:=(En.lt (h.ok j hj) e1).2;omega
  rcases hl j hj with hj | rfl
  ·have e:j≠k:=λe=>hk (e ▸ hj);rw[ac _ _ e] at e1;rcases hl l hl2 with hl2 | rfl
   ·have e':l≠k:=λe=>hk (e ▸ hl2);rw[ac _ _ e'] at e2;exact h.sep j l hj hl2 hne id e1 e2
   ·rw[an] at e2;exact key j hj id e1 e2
  ·rw[an] at e1;rcases hl l hl2 with hl2 | rfl
   ·have e':l≠j:=λe=>hne e.symm;rw[ac _ _ e'] at e2;exact key l hl2 id e2 e1
   ·exact hne rfl
theorem Hp.app (h:Hp g b L V E)(hk:L k){sz bytes:Nat}{rows new:List (List AV)}(he:E k=.sl sz rows){x:AV}{K:AV->G->Prop}{D:ADf->Prop}(hx:ah g.h sz x=some new)
  (hr:(rows.length+new.length)*bytes<=aP)
  (kk:∀v' g',Hp g' b L (ups V k v') (ups E k (.sl sz (rows++new)))->g.nx<=g'.nx->(∀i,i<b->g'.h.get i=g.h.get i)->(∀i,i<g.nx->eid (V k)≠some i->g'.h.get i=g.h.get i)->(∀i∈g'.lg,i∈g.lg\/b<=i)->v'.cells=[v']->v'.isTup=false->K v' g') :
  (cW sz bytes (V k) x g).sat K g D:=by
 have ho:=h.own hk he;refine aU ho hx h.nx hr λv' g' hv' hn hf hvid hlg=>?_;refine kk v' g' (h.set hk (e':=.sl sz (rows++new)) hv' hn (λi _ hi hne=>hf i hi (by rw[<-bH ho];exact hne)) ?_) hn (λi hi=>hf i (Nat.lt_of_lt_of_le hi h.nx) λe=>by have:=(ho.lt e).1;omega)
  (λi hi hne=>hf i hi (by rw[<-bH ho];exact hne)) hlg hv'.cell.1 hv'.cell.2
 rw[bH hv',bH ho];exact hvid
theorem Hp.put (h:Hp g b L V E)(hk:L k){sz n i off:Nat}{rows:List (List AV)}{row row':List AV}(he:E k=.sl sz rows){x:AV}{K:AV->G->Prop}{D:ADf->Prop}(hr:rows[i]?=some row)
  (hl:x.cells.length=n) (ht:x.isTup=false) (hp:bL row off x.cells=some row')
  (kk:∀g',Hp g' b L V (ups E k (.sl sz (rows.set i row')))->g'.nx=g.nx->(∀i,i<b->g'.h.get i=g.h.get i)->(∀i,eid (V k)≠some i->g'.h.get i=g.h.get i)->K .undef g'):(lJ n (iH sz (V k) i off) x g).sat K g D:=by
 have ho:=h.own hk he;refine cN ho hr hl ht hp λg' hv' hn hf=>?_;have:=h.set hk (e':=.sl sz (rows.set i row')) hv' (by omega) (λi _ hi hne=>hf i (by rw[<-bH ho];exact hne)) (.inl rfl);rw[KI (f:=V) rfl] at this;exact kk g' this hn (λi hi=>hf i λe=>by have:=(ho.lt e).1;omega) λi hne=>hf i (by rw[<-bH ho];exact hne)
theorem Hp.putb (h:Hp g b L V E)(hk:L k){row row':List AV}(he:E k=.bx row){id:Nat}(hv:V k=.hptr id 0 0 0)(hl:row'.length=row.length):Hp (g.put id (.cells row.length [row'] 0 false false)) b L V (ups E k (.bx row')):=by
 obtain ⟨id',h1,h2,h3,h4⟩:=h.box hk he;rw[hv] at h3;injection h3 with h3;subst h3;have:=h.set (g':=g.put id (.cells row.length [row'] 0 false false)) hk (e':=.bx row') (v':=.hptr id 0 0 0) ⟨id,h1,by simpa using h2,rfl,by rw[hl];simp[aR]⟩ (by simp) (λi _ hi hne=>by
  rw[G.put_h,aq _ _ _ (λe=>hne (by rw[hv,e];rfl))]) (.inl (by rw[hv]))
 rw[KI (f:=V) hv] at this;exact this
end
end
end Hx
end
section
namespace Hx
open Go
noncomputable section
theorem iO {C:Cfg}{d:Nat}{rd:Option Nat}{l:List SI}{b:SC}{Q:QT}{t:T}{df:List ADf}{g:G}{P:PT}(h1:wpO C d rd l P t df g)(h2:∀t df g,P t df g->wp C d rd b Q t df g):wp C d rd (.seq (.ops l) b) Q t df g:=by
 rw[dU];have:wp C d rd (.ops l) (λe t df g=>e=.norm/\P t df g) t df g:=by rw[Cg];simpa using h1
 refine bQ _ this ?_;rintro e t df g ⟨rfl,h⟩;exact h2 t df g h
structure Bnd (K:Nat) (m:Causal):Prop where
 r:m.roots.length<=K
 rr:∀x∈m.roots,x.length<=K
 n:m.nodes.length<=K
 f:∀x∈m.nodes,x.frm.length<=K/\x.noise.length<=K/\x.out.length<=K
abbrev Ky:Type:=Nat×Nat
structure BD (K R n:Nat) (V:Ky->AV) (E:Ky->En) (Rt:Nat->List Int) (c:Nat->Int) (F:Nat->Nat->List Int):Prop where
 r:∀i,i<R->E (0,i)=.sl 1 ((Rt i).map ci)/\(Rt i).length<=K
 f:∀q i,1<=q->q<=3->i<n->E (q,i)=.sl 1 ((F q i).map ci)/\(F q i).length<=K
 rs:E (4,0)=.sl 1 ((List.range R).map λi=>[V (0,i)])
 ns:E (4,1)=.sl 4 ((List.range n).map λi=>[.int .i64 (c i),V (1,i),V (2,i),V (3,i)])
structure TI (g:G) (q:Nat) (m:Causal) (k1 k2 act u1 u2 u3:AV) (A B W:List Int):Prop where
 a1:g.h.get 1=.cells 1 [[act]] 0 false false
 a2:g.h.get 2=.cells 3 [[.nils,.nils,.nils]] 0 false false
 a4:g.h.get 4=.cells 4 [[.int .i64 m.grain,k1,k2,.int .i64 (S.PZ m)]] 0 false false
 bq:g.h.get q=.cells 3 [[u1,u2,u3]] 0 false false
 o1:Own g 5 u1 1 (A.map ci)
 o2:Own g 5 u2 1 (B.map ci)
 o3:Own g 5 u3 1 (W.map ci)
 q5:5<=q/\q<g.nx
 n1:∀i,vid u1=some i->i≠q/\vid u2≠some i/\vid u3≠some i
 n2:∀i,vid u2=some i->i≠q/\vid u3≠some i
 n3:∀i,vid u3=some i->i≠q
section
variable {g g':G}{q:Nat}{m:Causal}{k1 k2 act u1 u2 u3:AV}{A B W:List Int}
end
end
end Hx
end
section
namespace Hx
open Go
noncomputable section
theorem jN {C:Cfg}{d:Nat}{rd:Option Nat}{a b:SC}{Q:QT}{t:T}{df:List ADf}{g:G}{P:PT}(h1:wp C d rd a (λe t df g=>e=.norm/\P t df g) t df g)(h2:∀t df g,P t df g->wp C d rd b Q t df g):wp C d rd (.seq a b) Q t df g:=by rw[dU];refine bQ _ h1 ?_;rintro e t df g ⟨rfl,h⟩;exact h2 t df g h
abbrev QI:=Int×Int
theorem wk {x:QI}{P:Nat->Prop}{k:Nat}{h:H}{v:AV}:Agg x P k h v↔v=.agg [.int .i64 x.1,.int .i64 x.2]:=by
 constructor
 ·rintro ⟨cs,rfl,hc⟩;obtain ⟨a,b,rfl,h1,h2⟩:=xC.1 hc;rw[aL.1 h1,aL.1 h2];rfl
 ·rintro rfl;exact ⟨_,rfl,xC.2 ⟨[.int .i64 x.1],[.int .i64 x.2],rfl,aL.2 rfl,aL.2 rfl⟩⟩
def S.O5 (n d:Nat):QI:=(((n / Nat.gcd n d:Nat):Int),((d / Nat.gcd n d:Nat):Int))
def S.Pw (vals e:List Int)(i:Nat):Bool:=decide (e[i]?.getD 0<0) || decide (e[i]?.getD 0=vals[i]?.getD 0)
def S.O8 (vals e:List Int):Bool:=(List.range e.length).all (S.Pw vals e)
theorem SlR.far8 {α:Type} [Rp α]{P:Nat->Prop}{k:Nat}{h h':H}{l:List α}{v:AV}(r:SlR P k h l v)(hf:∀i,P i->h'.get i=h.get i):SlR P k h' l v:=by obtain ⟨w,e,q⟩:=Rp.mono (P':=P) (k':=k) (h':=h') (show Rp.rp P k h l [v] from ⟨v,rfl,r⟩) (λi hi=>⟨hi,hf i hi⟩) (Nat.le_refl _);injection e with e;subst e;exact q
def S.P_ (s a:List Int):List Int:=(List.range s.length).map λi=>if a[i]?.getD 0<0 then -1 else s[i]?.getD 0
theorem jV {α:Type}{C:α->Prop}{S:α->VS}{j:Nat}(h:∀a,Snb (S a) j):Snb (λP k h v=>∃a,C a/\S a P k h v) j :=
 ⟨λ{P k hh v n} d r hn=>by
  obtain ⟨a,c,r⟩:=r;obtain ⟨v',e,r'⟩:=(h a).snap d r hn;exact ⟨v',e,a,c,r'⟩,λ{k hh v n} r hn=>by
  obtain ⟨a,c,r⟩:=r;exact (h a).tag r hn⟩
theorem rS:∀{A L:List Nat},A.Nodup->(∀v∈A,v∈L)->A.length<=L.length
 | [],_,_,_=>Nat.zero_le _
 | a::A,L,hA,h=>by rw[List.nodup_cons] at hA;have ha:=h a (by simp);have:=rS (A:=A) (L:=L.erase a) hA.2 λv hv=>(List.mem_erase_of_ne (λe=>hA.1 (by rw[<-e];exact hv))).2 (h v (by simp[hv]));rw[List.length_erase_of_mem ha] at this;have:=List.length_pos_of_mem ha;simp only[List.length_cons];omega
def Ord (p:List Nat)(L:List Nat):Prop:=(∀v,v<p.length->v∈L)/\∀(i v:Nat),L[i]?=some v->v<p.length/\∀q,(Par p v).testBit q=true->q∈L.take i
def G4 (p:List Nat)(L:List Nat):Prop:=L.Nodup/\∀(i v:Nat),L[i]?=some v->v<p.length/\∀q,(Par p v).testBit q=true->q∈L.take i
theorem JI {p L:List Nat}(h:G4 p L):L.length<=p.length:=by
 have:=rS (L:=List.range p.length) h.1 λv hv=>by obtain ⟨i,hi,rfl⟩:=List.mem_iff_getElem.1 hv;exact List.mem_range.2 (h.2 i _ (List.getElem?_eq_getElem hi)).1
 simpa using this
theorem HE {p L:List Nat}(h:G4 p L){v:Nat}(hv:v ∉ L)(hl:v<p.length)(hp:∀q,(Par p v).testBit q=true->q∈L):G4 p (L++[v]):=by
 refine ⟨?_,λi u hu=>?_⟩
 ·rw[List.nodup_append];exact ⟨h.1,by simp,λa ha b hb=>by simp at hb;subst hb;exact λe=>hv (e ▸ ha)⟩
 ·rcases Nat.lt_or_ge i L.length with hi | hi
  ·rw[List.getElem?_append_left hi] at hu;obtain ⟨h1,h2⟩:=h.2 i u hu;exact ⟨h1,λq hq=>by rw[List.take_append_of_le_length (by omega)];exact h2 q hq⟩
  ·rw[List.getElem?_append_right hi] at hu;have:i=L.length:=by have:=(List.getElem?_eq_some_iff.1 hu).1;simp at this;omega
   subst this;simp at hu;subst hu;exact ⟨hl,λq hq=>by rw[List.take_left];exact hp q hq⟩
theorem HD {p L:List Nat}(h:G4 p L)(hl:p.length<=L.length):Ord p L:=by
 refine ⟨λv hv=>?_,h.2⟩
 by_cases hm:v∈L
 ·exact hm
 ·have:=rS (A:=v::L) (L:=List.range p.length) (List.nodup_cons.2 ⟨hm,h.1⟩) λu hu=>by
   rcases List.mem_cons.1 hu with rfl | hu
   ·exact List.mem_range.2 hv
   ·obtain ⟨i,hi,rfl⟩:=List.mem_iff_getElem.1 hu;exact List.mem_range.2 (h.2 i _ (List.getElem?_eq_getElem hi)).1
  simp at this;omega
theorem LC {p L:List Nat}(h:G4 p L)(hl:L.length<p.length):∃v,v<p.length/\v ∉ L:=by
 by_cases hh:∃v,v<p.length/\v ∉ L
 ·exact hh
 ·exfalso;have:=rS (A:=List.range p.length) (L:=L) List.nodup_range λv hv=>by
   by_cases h':v∈L
   ·exact h'
   ·exact absurd ⟨v,List.mem_range.1 hv,h'⟩ hh
  simp at this;omega
def M7 (D:Nat)(L:List Nat):Prop:=D<18446744073709551616/\∀v,D.testBit v=true↔v∈L
theorem HV {D:Nat}{L:List Nat}(h:M7 D L){v:Nat}(hv:v<64):M7 (D ||| S.O9 v) (L++[v]):=by
 refine ⟨Gw h.1 (u7 v),λu=>?_⟩;rw[rt,xQ hv,Bool.or_eq_true,h.2,decide_eq_true_eq,List.mem_append,List.mem_singleton];constructor
 ·rintro (h | h)
  ·exact .inl h
  ·exact .inr h.symm
 ·rintro (h | h)
  ·exact .inl h
  ·exact .inr h.symm
theorem wF {d k k2:Nat}{g:G}{P P2:Nat->Prop}{v w:AV}{vals e:List Int}(hd:0<d)(hv:SlR P k g.h vals v)(hw:SlR P2 k2 g.h e w)(hl:vals.length=e.length) :
  am C0 d N.Pa [v,w] g=.val (.bool (S.O8 vals e)):=by
 obtain ⟨v',e1,r1⟩:=be hv d;obtain ⟨w',e2,r2⟩:=be hw d;rw[s6];refine ej vL (xs:=[v',w']) (by simp only[aE,e1,e2]) (by simp[ju]) hd ?_;simp only[sz,simprocAttr,ju,kU];refine bp e.length hw.1 (λj t df g=>df=[]/\St t [(0,v'),(1,w')]/\(List.range j).all (S.Pw vals e)=true) ⟨rfl,by simp[St,sx],rfl⟩ (by simp[sx]) (by decide) (by rintro j t df g v s (rfl | rfl | rfl)<;>simp[St,sx]) ?_ ?_ ?_
 ·rintro j t df g hj ⟨rfl,⟨h0,h1,-⟩,hA⟩ h5;have n1:cV .slice v' g=.val (.int .i64 (e.length:Int)):=by rw[(r1 .nil).len,hl]
  simp only[sz,simprocAttr,h0,h1,h5,n1,St,hA]
 ·rintro j t df g hj ⟨rfl,⟨h0,h1,-⟩,hA⟩ h5;obtain ⟨x,hx,-,-⟩:=ae hj;obtain ⟨y,hy,-,-⟩:=ae (l:=vals) (j:=j) (by omega);have q1:j<(e.map ci).length:=by simpa using hj
  have q2:j<(vals.map ci).length:=by rw[List.length_map];omega
  have q3:(e.map ci)[j]?=some (ci x):=by rw[List.getElem?_map,hx];rfl
  have q4:(vals.map ci)[j]?=some (ci y):=by rw[List.getElem?_map,hy];rfl
  have hat:S.Pw vals e j=(decide (x<0) || decide (x=y)):=by simp[S.Pw,hx,hy]
  have ra:∀h',ah h' 1 v'=some (vals.map ci):=λh'=>(r1 h').ints;have rb:∀h',ah h' 1 w'=some (e.map ci):=λh'=>(r2 h').ints
  by_cases hx0:0<=x
  ·by_cases hxy:x=y
   ·simp only[sz,simprocAttr,h1,h5,rb,q1,q3,ci,hxy,St];have hx0:0<=y:=by omega
    simp only[sz,simprocAttr,hx0,h0,h1,h5,ra,rb,q1,q2,q3,q4,ci,hxy];rw[cx,hA,hat];simp[hxy]
   ·simp only[sz,simprocAttr,h0,h1,h5,ra,rb,q1,q2,q3,q4,ci,hx0,hxy];have:S.Pw vals e j=false:=by rw[hat];simp;omega
    rw[S.O8,jk hj this]
  ·simp only[sz,simprocAttr,h0,h1,h5,rb,q1,q3,ci,hx0,St];rw[cx,hA,hat];simp;omega
 ·rintro t df g ⟨rfl,⟨h0,h1,-⟩,hA⟩;simp only[sz,simprocAttr,kV];rw[S.O8,hA]
theorem Mz {g g':G}(hn:g.nx<=g'.nx)(h:∀i,i<g.nx->g'.h.get i=g.h.get i):Fr g g':=⟨hn,h⟩
theorem rI {C:Cfg}{d:Nat}{rd:Option Nat}{body:SC}{c ti k B b:Nat}{Q:QT}{m:Nat}{lim:Int}(hlim:lim=(m:Int))(hm:m<9223372036854775808)(J:Nat->PT){t:T}{df:List ADf}{g:G}
  (h0:J 0 t df g) (hi:tat t ti=.int .i64 0) (hc:c≠ti/\b≠B)
  (hJ:∀j t df g v s,s=c\/s=ti\/s=k->J j t df g->J j (fO t s v) df g)
  (step:∀j t df g,j<m->J j t df g->tat t ti=.int .i64 (j:Int)->wp C d rd body (kR (λt df g=>J (j+1) t df g/\tat t ti=.int .i64 (j:Int)) b Q) t df g)
  (fin:∀t df g,J m t df g->Q (.exit B) t df g) :
  wpL (wp C d rd (.seq (.ops [o c (.bin .lss (.t ti) (.k (.int .i64 lim)))]) (.seq (.cond (.t c) .skip (.exit B)) (.seq (.blk b body) (.ops [o k (.bin .add (.t ti) (.k (.int .i64 1))),o ti (.mv (.t k))]))))) Q t df g:=by
 subst hlim;obtain ⟨c1,c5⟩:=hc;refine eW (λn t df g=>∃j:Nat,n=m - j/\j<=m/\J j t df g/\tat t ti=.int .i64 (j:Int)) m ⟨0,by omega,by omega,h0,hi⟩ ?_;rintro n t df g ⟨j,rfl,hj,hjj,h1⟩;simp only[sz,simprocAttr,h1];refine ⟨λhq=>?_,λhq=>?_⟩
 ·have hlt:j<m:=by simpa using hq
  simp only[sx];refine bQ _ (step j _ df g hlt (hJ _ _ _ _ _ _ (.inl rfl) hjj) (by simp only[ji];rw[if_neg (Ne.symm c1),h1])) λe t df g h=>?_;have key:J (j+1) t df g/\tat t ti=.int .i64 (j:Int)->wp C d rd (.ops [o k (.bin .add (.t ti) (.k (.int .i64 1))),o ti (.mv (.t k))])
    (kL (λn t df g=>∃j:Nat,n=m - j/\j<=m/\J j t df g/\tat t ti=.int .i64 (j:Int)) (m - j) Q) t df g:=by
   rintro ⟨a1,a2⟩;simp only[sz,simprocAttr,a2];refine ⟨_,?_,j+1,rfl,by omega,hJ _ _ _ _ _ _ (.inr (.inl rfl)) (hJ _ _ _ _ _ _ (.inr (.inr rfl)) a1),?_⟩
   ·omega
   ·rw[ay (by omega) (by omega)];rfl
  cases e with
  | norm=>exact key h
  | ret=>exact h
  | exit x =>
   rw[mi] at h;rw[o9]
   split at h
   ·rename_i e;rw[if_pos e];exact key h
   ·rename_i e;rw[if_neg e];exact h
 ·have:j=m:=by simp at hq;omega
  subst this;simp only[sx];exact fin _ _ _ (hJ _ _ _ _ _ _ (.inl rfl) hjj)
section
variable {m:Causal}{c1 c2 l w c9 v35 ls v48:AV}{al:List Int}{hid kk:Int}{p:Nat}
end
end
end Hx
end
section
namespace Hx
open Go
noncomputable section
theorem o_ (l:List Int)(j:Nat)(x:Int):(l.map ci).set j (ci x)=(l.set j x).map ci:=by rw[List.map_set]
theorem xA {x y:Nat}(hy:0<y):cq .rem (.int .i64 (x:Int)) (.int .i64 (y:Int))=.val (.int .i64 ((x % y:Nat):Int)):=by rw[gk .i64 (Int.natCast_nonneg x) (by omega),<-Int.natCast_emod]
def S.Pn:Nat->Nat->List Int
 | 0,_=>[]
 | f+1,n=>if n=0 then [] else ((n % 10000:Nat):Int)::S.Pn f (n / 10000)
def S.dg (n:Nat):List Int:=S.Pn 12 n
theorem CD:∀{f n:Nat},n<10000 ^ f->S.Pn (f+1) n=S.Pn f n
 | 0,n,h=>by
  have:n=0:=by simp at h;exact h
  subst this;rfl
 | f+1,n,h=>by
  have ih:=CD (f:=f) (n:=n / 10000) (by rw[Nat.pow_succ] at h;exact (Nat.div_lt_iff_lt_mul (by decide)).2 h);rw[S.Pn]
  by_cases h0:n=0
  ·rw[if_pos h0,S.Pn,if_pos h0]
  ·rw[if_neg h0,ih]
   conv=>rhs;rw[S.Pn,if_neg h0]
theorem jO {n:Nat}(h0:n≠0)(h:n<1000000000000000000000000000000000000000000000000):S.dg n=((n % 10000:Nat):Int)::S.dg (n / 10000):=by have e:=CD (f:=12) (n:=n) h;unfold S.dg;rw[<-e];rw[S.Pn,if_neg h0]
theorem lT:S.dg 0=[]:=rfl
theorem FU:∀(f n:Nat),(S.Pn f n).length<=f
 | 0,_=>Nat.le_refl _
 | f+1,n=>by
  rw[S.Pn]
  split
  ·simp
  ·have:=FU f (n / 10000);simp;omega
theorem jo (n:Nat):(S.dg n).length<=12:=FU 12 n
theorem Gs {x:Nat}(h:x<9223372036854775808):unV .neg (.int .i64 (x:Int))=.val (.int .i64 (-(x:Int))):=by
 have e:unV .neg (.int .i64 (x:Int))=.val (.int .i64 (IntKind.wrap .i64 (-(x:Int)))):=by
  cases x with
  | zero=>rfl
  | succ n =>
   show orV (oy (Op.unary .neg (.int .i64 (.ofNat (n+1)))))=_;unfold oy Op.unary
   rfl
 rw[e,ay (by omega) (by omega)]
theorem rV {x y:Nat}(hx:x<9223372036854775808)(hy:0<y):cq .quo (.int .i64 (x:Int)) (.int .i64 (y:Int))=.val (.int .i64 ((x / y:Nat):Int)):=by have hle:x / y<=x:=Nat.div_le_self _ _;rw[FG .i64 (Int.natCast_nonneg x) (by omega),<-Int.natCast_ediv];generalize x / y=z at hle;rw[ay (by omega) (by omega)]
theorem vF {d:Nat}{g:G}{n:Nat}(hd:0<d)(hn:n<9223372036854775808):∃r,am C0 d N.OQ [.int .i64 (n:Int)] g=.val r/\IT 0 (S.dg n) r:=by
 rw[ua];refine aX wX (xs:=[.int .i64 (n:Int)]) (by simp only[aE,bD 0]) (by simp[kC]) (aS _) (by decide) hd ?_;simp only[sz,simprocAttr,kC];refine eW (λk t df g=>df=[]/\k<9223372036854775808/\St t [(0,.int .i64 (k:Int))]/\∃u L,tat t 3=u/\Own g 0 u 1 ((L:List Int).map ci)/\L++S.dg k=S.dg n) n
  ⟨rfl,hn,by simp[sx,St],_,[],rfl,.inl ⟨by simp[sx],rfl⟩,rfl⟩ ?_
 rintro k t df g ⟨rfl,hk,⟨h0,-⟩,u,L,h3,hu,hL⟩;have hln:L.length+(S.dg k).length=(S.dg n).length:=by rw[<-hL,List.length_append]
 have hl5:=jo n;simp only[sz,simprocAttr,lV,h0];refine aZ (λhq=>?_) (λhq=>?_)
 ·have hk0:k≠0:=by simp at hq;omega
  have hst:=jO hk0 (by omega);have m1:=xA (x:=k) (y:=10000) (by decide);have m2:=rV (x:=k) (y:=10000) hk (by decide);have hm:=Nat.mod_lt k (show 0<10000 by decide);have hng:=Gs (x:=k % 10000) (by omega);have hmx:max ((k % 10000:Nat):Int) (-((k % 10000:Nat):Int))=((k % 10000:Nat):Int):=by omega
  have hq1:k / 10000<k:=Nat.div_lt_self (by omega) (by decide);generalize k % 10000=r at *;generalize k / 10000=q at *;have m1:cq .rem (.int .i64 (k:Int)) (.int .i64 10000)=.val (.int .i64 (r:Int)):=m1;have m2:cq .quo (.int .i64 (k:Int)) (.int .i64 10000)=.val (.int .i64 (q:Int)):=m2;simp only[sz,simprocAttr,h0,h3,m1,hng,hmx];have hll:L.length<(S.dg n).length:=by rw[hst] at hln;simp at hln;omega
  refine aU (new:=[ci (r:Int)]) (hu.step (Fr.new _ _)) (by simp[sx,sy,ci]) (by simp<;>omega) (by simp[aP]<;>omega) λv2 g2 hv2 n2 f2 _ l2=>?_;simp only[sz,simprocAttr,h0,m2,St];refine ⟨q,hq1,by omega,?_,v2,L++[(r:Int)],?_,?_,?_⟩
  ·simp[sx]
  ·simp[sx]
  ·simpa using hv2
  ·rw[List.append_assoc,List.singleton_append,<-hst,hL]
 ·have hk0:k=0:=by simp at hq;omega
  subst hk0;rw[lT,List.append_nil] at hL;subst hL;simp only[sz,simprocAttr,lW,h3];exact ⟨_,hu.ints (by omega)⟩
def S.OI:List Int->Int
 | []=>0
 | x::l=>x+10000*S.OI l
theorem Gb {a b:Nat}(h:a<=b):(10000:Int) ^ a<=10000 ^ b:=by rw[show (10000:Int)=((10000:Nat):Int) from rfl,<-Int.natCast_pow,<-Int.natCast_pow];exact Int.ofNat_le.2 (Nat.pow_le_pow_right (by decide) h)
theorem Eu {P:Nat->Prop}(h0:P 0)(hs:∀n,n≠0->P (n / 10000)->P n):∀n,P n:=by
 intro n
 induction n using Nat.strongRecOn with
 | ind n ih =>
  by_cases h:n=0
  ·subst h;exact h0
  ·exact hs n h (ih _ (Nat.div_lt_self (by omega) (by decide)))
theorem oO:∀n:Nat,n<1000000000000000000000000000000000000000000000000->S.OI (S.dg n)=(n:Int):=by refine Eu (λ_=>rfl) λn h0 ih hn=>?_;have hl:=Nat.div_le_self n 10000;rw[jO h0 hn,S.OI,ih (by omega)];have:=Nat.div_add_mod n 10000;omega
theorem tb:∀n:Nat,n<1000000000000000000000000000000000000000000000000->∀x∈S.dg n,0<=x/\x<10000:=by
 refine Eu (λ_ x hx=>by simp[lT] at hx) λn h0 ih hn x hx=>?_;have hl:=Nat.div_le_self n 10000;have hm:=Nat.mod_lt n (show 0<10000 by decide);rw[jO h0 hn] at hx;rcases List.mem_cons.1 hx with rfl | hx
 ·omega
 ·exact ih (by omega) x hx
theorem kg:∀(l r:List Int),S.OI (l++r)=S.OI l+10000 ^ l.length*S.OI r
 | [],r=>by simp[S.OI]
 | x::l,r=>by rw[List.cons_append,S.OI,S.OI,kg l r,List.length_cons,Int.pow_succ,Int.mul_add,<-Int.mul_assoc,Int.mul_comm 10000 (10000 ^ l.length)];omega
theorem kh:∀{l:List Int},(∀x∈l,0<=x/\x<10000)->0<=S.OI l/\S.OI l<10000 ^ l.length
 | [],_=>by simp[S.OI]
 | x::l,h=>by have h1:=kh (l:=l) λy hy=>h y (by simp[hy]);have h2:=h x (by simp);rw[S.OI,List.length_cons,Int.pow_succ];omega
theorem FW:∀{l:List Int},(∀x∈l,0<=x/\x<10000)->l.getLast?≠some 0->l.length<=12->S.dg (S.OI l).toNat=l
 | [],_,_,_=>rfl
 | x::l,h,hz,hl=>by
  have h2:=h x (by simp);have hr:∀y∈l,0<=y/\y<10000:=λy hy=>h y (by simp[hy]);have hb:=kh hr;have hb2:=kh h;have hz2:l.getLast?≠some 0:=by
   cases l with
   | nil=>simp
   | cons y l=>rw[List.getLast?_cons_cons] at hz;exact hz
  have ih:=FW hr hz2 (by simp at hl;omega);have hne:S.OI (x::l)≠0:=by
   intro e;rw[S.OI] at e;have e1:x=0:=by omega
   have e2:S.OI l=0:=by omega
   rw[e2] at ih;have:l=[]:=ih.symm;subst this;subst e1;exact hz rfl
  have hlt:(S.OI (x::l)).toNat<1000000000000000000000000000000000000000000000000:=by
   have:(10000:Int) ^ (x::l).length<=10000 ^ 12:=Gb hl;have:(10000:Int) ^ 12=1000000000000000000000000000000000000000000000000:=by decide
   omega
  rw[jO (by omega) hlt];have ed:S.OI (x::l)=x+10000*S.OI l:=rfl;have ed:S.OI (x::l)=x+10000*S.OI l:=rfl;have e:(S.OI (x::l)).toNat=x.toNat+10000*(S.OI l).toNat:=by rw[ed];omega
  rw[e];have e1:(x.toNat+10000*(S.OI l).toNat) % 10000=x.toNat:=by omega
  have e2:(x.toNat+10000*(S.OI l).toNat) / 10000=(S.OI l).toNat:=by omega
  rw[e1,e2,ih,Int.toNat_of_nonneg h2.1]
theorem On {w:AV}{l:List Int}{k:Nat}(hw:SlR NoP k .nil l w)(hne:l≠[]){c:Nat}(hc:c<=l.length) :
  ∃w',(∀g,lR 1 w none (some (.int .i64 (c:Int))) g=.val w')/\SlR NoP k .nil (l.take c) w':=by
 have hlt:(l.take c).length<9223372036854775808:=by have:=hw.1;rw[List.length_take];omega
 have h:=hw.2;unfold SlV at h
 split at h
 ·exact absurd h hne
 ·exact absurd h hne
 ·rename_i t s rows;obtain ⟨h0,h1,h2⟩:=h;have hlen:=h2.len;have hs:s=1:=by
   rcases h1 with e | e
   ·exact e
   ·rw[e] at hlen;simp at hlen;exact absurd hlen hne
  subst hs;refine ⟨.tsl t 1 (rows.take c),λg=>?_,hlt,h0,.inl rfl,h2.take c⟩;show orV (match aQ (aY rows) (aY rows) (some (.int .i64 (.ofNat c))) with
   | none=>none
   | some h=>match aQ 0 h none with
    | none=>none
    | some l=>au (Nat.beq 1 1) (some (.tsl t 1 (eO (h - l) (dZ l rows)))) none)=_
  have:aQ (aY rows) (aY rows) (some (.int .i64 (.ofNat c)))=some c:=by show au (Nat.ble c (aY rows)) (some c) none=_;rw[aa,if_pos];rw[aw,<-hlen];simp;omega
  rw[this];show orV (au (Nat.beq 1 1) (some (AV.tsl t 1 (eO (c - 0) (dZ 0 rows)))) none)=_;rw[show Nat.beq 1 1=true from rfl,bif'_true,bh,bg,List.drop_zero,Nat.sub_zero];rfl
 ·exact h.1.elim
 ·exact h.elim
def S.Pp (l:List Int):Nat->List Int
 | 0=>[]
 | j+1=>if l[j]?.getD 0=0 then S.Pp l j else l.take (j+1)
def S.Pv (l:List Int):List Int:=S.Pp l l.length
theorem FX {n:Nat}(h0:n≠0)(h:n<1000000000000000000000000000000000000000000000000):0<(S.dg n).length:=by rw[jO h0 h];simp
theorem Lf:∀n:Nat,n<1000000000000000000000000000000000000000000000000->(S.dg n).getLast?≠some 0:=by
 refine Eu (λ_=>by simp[lT]) λn h0 ih hn=>?_;have hl:=Nat.div_le_self n 10000;have ih:=ih (by omega);rw[jO h0 hn]
 by_cases hz:n / 10000=0
 ·rw[hz,lT];simp only[List.getLast?_singleton];have:=Nat.div_add_mod n 10000;intro e;injection e with e;omega
 ·have h1:=FX hz (by omega);obtain ⟨y,l,e⟩:∃y l,S.dg (n / 10000)=y::l:=by
   cases h:S.dg (n / 10000) with
   | nil=>rw[h] at h1;simp at h1
   | cons y l=>exact ⟨y,l,rfl⟩
  rw[e] at ih ⊢;rw[List.getLast?_cons_cons];exact ih
theorem ta:∀(i n:Nat),n<1000000000000000000000000000000000000000000000000->(S.dg n)[i]?.getD 0=((n / 10000 ^ i % 10000:Nat):Int)
 | 0,n,hn=>by
  by_cases h0:n=0
  ·subst h0;rfl
  ·rw[jO h0 hn];simp
 | i+1,n,hn=>by
  have hl:=Nat.div_le_self n 10000
  by_cases h0:n=0
  ·subst h0;simp[lT]
  ·rw[jO h0 hn,List.getElem?_cons_succ,ta i _ (by omega),Nat.pow_succ,Nat.mul_comm,<-Nat.div_div_eq_div_mul]
theorem FV:∀(i n:Nat),n<1000000000000000000000000000000000000000000000000->(S.dg n).drop i=S.dg (n / 10000 ^ i)
 | 0,n,hn=>by simp
 | i+1,n,hn=>by
  have hl:=Nat.div_le_self n 10000
  by_cases h0:n=0
  ·subst h0;simp[lT]
  ·rw[jO h0 hn,List.drop_succ_cons,FV i _ (by omega),Nat.pow_succ,Nat.mul_comm,<-Nat.div_div_eq_div_mul]
theorem uk {n:Nat}(h:n<1000000000000000000000000000000000000000000000000):n<10000 ^ (S.dg n).length:=by have h1:=(kh (tb n h)).2;rw[oO n h] at h1;exact Int.ofNat_lt.1 (by rw[Int.natCast_pow];exact h1)
theorem BH:∀{l:List Int},(∀x∈l,0<=x/\x<10000)->l.getLast?≠some 0->0<l.length->10000 ^ (l.length - 1)<=S.OI l
 | [],_,_,h=>by simp at h
 | [x],h,hz,_=>by have:=h x (by simp);have:x≠0:=λe=>hz (by rw[e];rfl);simp only[S.OI,List.length_singleton,Nat.sub_self,Int.pow_zero];omega
 | x::y::l,h,hz,_=>by have h1:=BH (l:=y::l) (λz hz=>h z (by simp[hz])) (by rw[List.getLast?_cons_cons] at hz;exact hz) (by simp);have:=h x (by simp);rw[S.OI];simp only[List.length_cons,Nat.add_sub_cancel] at h1 ⊢;rw[Int.pow_succ];omega
theorem Mv {n:Nat}(h:n<1000000000000000000000000000000000000000000000000)(h0:n≠0):10000 ^ ((S.dg n).length - 1)<=n:=by have h1:=BH (tb n h) (Lf n h) (FX h0 h);rw[oO n h] at h1;exact Int.ofNat_le.1 (by rw[Int.natCast_pow];exact h1)
theorem vD {a b:Nat}(ha:a<1000000000000000000000000000000000000000000000000)(hb:b<1000000000000000000000000000000000000000000000000)(h:(S.dg a).length<(S.dg b).length):a<b:=by
 have h1:=uk ha;have h0:b≠0:=λe=>by subst e;simp[lT] at h
 have h2:=Mv hb h0;have h3:10000 ^ (S.dg a).length<=10000 ^ ((S.dg b).length - 1):=Nat.pow_le_pow_right (by decide) (by omega);omega
theorem Hj {a b:Nat}(ha:a<1000000000000000000000000000000000000000000000000)(hb:b<1000000000000000000000000000000000000000000000000)(h:a<=b):(S.dg a).length<=(S.dg b).length :=
 Nat.le_of_not_lt λe=>by have:=vD hb ha e;omega
def S.Ph (a b:Nat):Int:=if a<b then -1 else if a=b then 0 else 1
theorem Io {a b i:Nat}(h:a / 10000 ^ (i+1)=b / 10000 ^ (i+1))(h2:a / 10000 ^ i % 10000<b / 10000 ^ i % 10000):a<b:=by rw[Nat.pow_succ,<-Nat.div_div_eq_div_mul,<-Nat.div_div_eq_div_mul] at h;refine Nat.lt_of_not_le λe=>?_;have:=Nat.div_le_div_right (c:=10000 ^ i) e;have h3:=Nat.div_add_mod (a / 10000 ^ i) 10000;have h4:=Nat.div_add_mod (b / 10000 ^ i) 10000;omega
theorem Nc {a b i:Nat}(h:a / 10000 ^ (i+1)=b / 10000 ^ (i+1))(h2:a / 10000 ^ i % 10000=b / 10000 ^ i % 10000):a / 10000 ^ i=b / 10000 ^ i:=by rw[Nat.pow_succ,<-Nat.div_div_eq_div_mul,<-Nat.div_div_eq_div_mul] at h;have h3:=Nat.div_add_mod (a / 10000 ^ i) 10000;have h4:=Nat.div_add_mod (b / 10000 ^ i) 10000;omega
theorem Aw (l:List Int):∀{j:Nat},j<=l.length->∃m,m<=j/\S.Pp l j=l.take m/\S.OI (l.take m)=S.OI (l.take j)/\(l.take m).getLast?≠some 0
 | 0,_=>⟨0,Nat.le_refl _,by simp[S.Pp],rfl,by simp⟩
 | j+1,h=>by
  obtain ⟨x,hx,ht,-⟩:=ae (l:=l) (j:=j) (by omega)
  by_cases h0:x=0
  ·obtain ⟨m,h1,h2,h3,h4⟩:=Aw l (j:=j) (by omega);refine ⟨m,by omega,?_,?_,h4⟩
   ·rw[S.Pp,hx,Option.getD_some,if_pos h0,h2]
   ·rw[h3,ht,kg,h0];simp[S.OI]
  ·refine ⟨j+1,Nat.le_refl _,?_,rfl,?_⟩
   ·rw[S.Pp,hx,Option.getD_some,if_neg h0]
   ·rw[ht,List.getLast?_concat];simpa using h0
theorem yi {l:List Int}{n:Nat}(h:∀x∈l,0<=x/\x<10000)(hv:S.OI l=(n:Int))(hn:n<1000000000000000000000000000000000000000000000000):S.Pv l=S.dg n:=by
 obtain ⟨m,h1,h2,h3,h4⟩:=Aw l (Nat.le_refl l.length);rw[List.take_length,hv] at h3;have hr:∀x∈l.take m,0<=x/\x<10000:=λx hx=>h x (List.mem_of_mem_take hx);have hlen:(l.take m).length<=12:=by
  refine Nat.le_of_not_lt λe=>?_;have h5:=BH hr h4 (by omega);rw[h3] at h5;have h6:(10000:Int) ^ 12<=10000 ^ ((l.take m).length - 1):=Gb (by omega);have:(10000:Int) ^ 12=1000000000000000000000000000000000000000000000000:=by decide
  omega
 have h7:=FW hr h4 hlen;rw[h3] at h7;rw[S.Pv,h2,<-h7]
 rfl
theorem yj {d:Nat}{g:G}{b:Nat}{v:AV}{l:List Int}{K:AV->G->Prop}{D:ADf->Prop}(hv:Own g b v 1 (l.map ci))(hl:l.length<9223372036854775808)
  (k:∀v',SlR (λi=>vid v=some i) 0 g.h (S.Pv l) v'->K v' g):(am C0 d N.OH [v] g).sat K g D:=by
 rw[xW];refine Bm Bp (by simp[qA]) ?_;simp only[sz,simprocAttr,qA,qB];rcases hv with ⟨rfl,e⟩ | ⟨id,ep,lo,h1,h2,rfl,h3⟩
 ·have:l=[]:=by simpa using e
  subst this;have k:=k .nils ⟨by show 0<9223372036854775808;decide,rfl⟩;refine eW (λn t df g'=>df=[]/\g'=g/\St t [(0,.nils)]) 0 ⟨rfl,rfl,by simp[sx,St]⟩ ?_;rintro n t df g' ⟨rfl,rfl,h0,-⟩;simp only[sz,simprocAttr,gH,h0,cV,Int.lt_irrefl];exact k
 ·rw[List.length_map] at *;have key:∀n≤l.length,ah g.h 1 (.hsl id ep 0 n none)=some ((l.take n).map ci):=λn hn=>by rw[dG,h3,co,if_pos (by simp;omega),List.drop_zero,List.map_take]
  have sl:∀n≤l.length,SlR (λi=>vid (.hsl id ep 0 l.length none)=some i) 0 g.h (l.take n) (.hsl id ep 0 n none):=λn hn =>
   ⟨by rw[List.length_take];omega,rfl,_,key n hn,All2.of_map (λa=>aL.2 rfl) _⟩
  have slc:∀n c:Nat,n<=l.length->c<n->lR 1 (.hsl id ep 0 n none) none (some (.int .i64 (c:Int))) g=.val (.hsl id ep 0 c none):=λn c hn hc=>by
   have hb:(l.map ci).length.beq 0=false:=by rw[List.length_map];cases h:l.length with | zero=>omega | succ n=>rfl
   simp only[lR,iI,h3,Nat.beq_refl,Bool.true_and,aw,Nat.zero_add,aa,Nat.ble_eq,aQ,Option.getD_none,Nat.sub_zero];rw[if_pos (by rw[List.length_map];omega)];simp only[bZ];rw[show au (c.ble (l.map ci).length) (some c) none=some c from by rw[aa,if_pos (by simp;omega)]];dsimp only;rw[hb]
   rfl
  refine eW (λn t df g'=>df=[]/\g'=g/\n<=l.length/\S.Pp l n=S.Pv l/\St t [(0,.hsl id ep 0 n none)]) l.length ⟨rfl,rfl,Nat.le_refl _,rfl,by simp[sx,St]⟩ ?_;rintro n t df g' ⟨rfl,rfl,hn,hc,h0,-⟩;have n1:∀h,cV .slice (.hsl id ep 0 n none) h=.val (.int .i64 (n:Int)):=λh=>rfl;have hk:=key n hn;cases n with
  | zero =>
   have q00:¬((0:Int)<((0:Nat):Int)):=by omega
   simp only[sz,simprocAttr,gH,h0,n1,q00];have k:=k _ (by rw[<-hc];exact sl 0 hn);exact k
  | succ n =>
   obtain ⟨x,hx,ht,-⟩:=ae (l:=l) (j:=n) (by omega);have w1:IntKind.wrap .i64 (((n+1:Nat):Int) - 1)=(n:Int):=by rw[ay (by omega) (by omega)];omega
   have q0:(0:Int)<((n+1:Nat):Int):=by omega
   have q1:n<((l.take (n+1)).map ci).length:=by simp;omega
   have q2:((l.take (n+1)).map ci)[n]?=some (ci x):=by rw[List.getElem?_map,List.getElem?_take,if_pos (by omega),hx];rfl
   have hs:=slc (n+1) n hn (by omega)
   by_cases hx0:x=0
   ·simp only[sz,simprocAttr,h0,n1,q0,w1,hk,q1,q2,ci,hx0,List.head?_nil,List.head?_cons,hs];refine ⟨n,by omega,by omega,?_,by simp[sx,St]⟩;rw[<-hc,S.Pp,hx,Option.getD_some,if_pos hx0]
   ·simp only[sz,simprocAttr,gH,h0,n1,q0,w1,hk,q1,q2,ci,hx0];have k:=k _ (by rw[<-hc,S.Pp,hx,Option.getD_some,if_neg hx0];exact sl (n+1) hn);exact k
theorem yf {d k k2:Nat}{g:G}{P P2:Nat->Prop}{v w:AV}{x y:Nat}(hd:0<d)(hv:SlR P k g.h (S.dg x) v)(hw:SlR P2 k2 g.h (S.dg y) w)(hx:x<1000000000000000000000000000000000000000000000000)(hy:y<1000000000000000000000000000000000000000000000000) :
  am C0 d N.OP [v,w] g=.val (.int .i64 (S.Ph x y)):=by
 obtain ⟨v',e1,r1⟩:=be hv d;obtain ⟨w',e2,r2⟩:=be hw d;rw[sX];refine dE vI (xs:=[v',w']) (by simp only[aE,e1,e2]) (by simp[jp]) hd ?_;have n1:=λg=>(r1 .nil).len g;have n2:=λg=>(r2 .nil).len g;have hlx:=hv.1;simp only[sz,simprocAttr,jp,n1,n2];refine aZ (λhq=>?_) (λhq=>?_)
 ·have hne:(S.dg x).length≠(S.dg y).length:=by simp at hq;omega
  simp only[sz,simprocAttr,n1,n2];refine aZ (λhq2=>?_) (λhq2=>?_)
  ·have hlt:(S.dg x).length<(S.dg y).length:=by simp at hq2;omega
   have:=vD hx hy hlt;simp only[sz,simprocAttr];rw[S.Ph,if_pos this]
  ·have hlt:(S.dg y).length<(S.dg x).length:=by simp at hq2;omega
   have:=vD hy hx hlt;simp only[sz,simprocAttr];rw[S.Ph,if_neg (by omega),if_neg (by omega)]
 ·have hle:(S.dg x).length=(S.dg y).length:=by simp at hq;omega
  have w1:IntKind.wrap .i64 (((S.dg x).length:Int) - 1)=((S.dg x).length:Int) - 1:=by rw[ay (by omega) (by omega)]
  simp only[sz,simprocAttr,n1,ky];refine rH (m:=(S.dg x).length) hlx (λj t df g=>df=[]/\St t [(0,v'),(1,w')]/\x / 10000 ^ j=y / 10000 ^ j) ⟨rfl,by simp[St,sx],?_⟩ (by simp[sx,w1]) (by decide) (by rintro j t df g v s (rfl | rfl | rfl | rfl | rfl)<;>simp[St,sx]) ?_ ?_
  ·have h1:=uk hx;have h2:=uk hy;rw[<-hle] at h2;rw[Nat.div_eq_of_lt h1,Nat.div_eq_of_lt h2]
  ·rintro j t df g hj ⟨rfl,⟨h0,h1,-⟩,hA⟩ h5;obtain ⟨p,hp,-,-⟩:=ae hj;obtain ⟨q,hq,-,-⟩:=ae (l:=S.dg y) (j:=j) (by omega);have ep:=ta j x hx;have eq:=ta j y hy;rw[hp,Option.getD_some] at ep;rw[hq,Option.getD_some] at eq;have q1:j<((S.dg x).map ci).length:=by simpa using hj
   have q2:j<((S.dg y).map ci).length:=by rw[List.length_map];omega
   have q3:((S.dg x).map ci)[j]?=some (ci p):=by rw[List.getElem?_map,hp];rfl
   have q4:((S.dg y).map ci)[j]?=some (ci q):=by rw[List.getElem?_map,hq];rfl
   have ra:∀h',ah h' 1 v'=some ((S.dg x).map ci):=λh'=>(r1 h').ints;have rb:∀h',ah h' 1 w'=some ((S.dg y).map ci):=λh'=>(r2 h').ints
   by_cases hpq:p=q
   ·have:=Nc hA (by omega);simp only[sz,simprocAttr,h0,h1,h5,ra,rb,q1,q2,q3,q4,ci,hpq,St];exact this
   ·by_cases hlt:p<q
    ·have:=Io hA (by omega);simp only[sz,simprocAttr,h0,h1,h5,ra,rb,q1,q2,q3,q4,ci,hpq,hlt];rw[S.Ph,if_pos this]
    ·have:=Io hA.symm (by omega);simp only[sz,simprocAttr,h0,h1,h5,ra,rb,q1,q2,q3,q4,ci,hpq,hlt];rw[S.Ph,if_neg (by omega),if_neg (by omega)]
  ·rintro t df g ⟨rfl,⟨h0,h1,-⟩,hA⟩;rw[Nat.pow_zero,Nat.div_one,Nat.div_one] at hA;subst hA;simp only[sz,simprocAttr,kA];rw[S.Ph,if_neg (by omega),if_pos rfl]
theorem CF:∀{L:List Int} {p:Nat} {z:Int},p<L.length->S.OI (L.set p z)=S.OI L+(z - L[p]?.getD 0)*10000 ^ p
 | [],_,_,h=>by simp at h
 | x::L,0,z,_=>by simp[S.OI];omega
 | x::L,p+1,z,h=>by have ih:=CF (L:=L) (p:=p) (z:=z) (by simpa using h);rw[List.set_cons_succ,S.OI,S.OI,ih,List.getElem?_cons_succ,Int.pow_succ,<-Int.mul_assoc,Int.mul_add,Int.mul_comm _ (10000:Int)];generalize (z - L[p]?.getD 0)*10000 ^ p=u;omega
theorem GD {L:List Int}{p:Nat}{z:Int}(h:∀x∈L,0<=x/\x<10000)(hz:0<=z/\z<10000):∀x∈L.set p z,0<=x/\x<10000:=λx hx=>by
 rcases List.mem_or_eq_of_mem_set hx with h1 | rfl
 ·exact h x h1
 ·exact hz
theorem Ie {L:List Int}(h:∀x∈L,0<=x/\x<10000)(p:Nat):0<=L[p]?.getD 0/\L[p]?.getD 0<10000:=by
 cases e:L[p]? with
 | none=>simp
 | some x=>exact h x (List.mem_of_getElem? e)
structure S.tI (bl:List Int) (n i:Nat) (V ai:Int) (k:Nat) (c:Int) (L:List Int):Prop where
 len:L.length=n
 rng:∀x∈L,0<=x/\x<10000
 zer:∀j,i+bl.length<=j->i+k<=j->L[j]?.getD 0=0
 kle:k<=bl.length+1
 c0:0<=c
 c1:c<10000
 ce:k=bl.length+1->c=0
 cs:k=0->c=0
 eq:S.OI L+c*10000 ^ (i+k)=V+ai*10000 ^ i*S.OI (bl.take k)
def S.PD (bl:List Int):Prop:=∀(k:Nat) (z:Int),bl[k]?=some z->0<=z/\z<=10000/\(0<k->z<10000)
theorem Mj {D D' c c' s l z U V W m:Int}(h1:D'=D+(z - l)*U)(h2:s=c+l+m)(h3:s=10000*c'+z)(h4:D+c*U=V+W):D'+c'*(U*10000)=V+(W+m*U):=by
 have e1:(c+l+m)*U=(10000*c'+z)*U:=by rw[<-h2,h3]
 rw[Int.add_mul,Int.add_mul,Int.add_mul,Int.mul_assoc] at e1;rw[Int.sub_mul] at h1;rw[<-Int.mul_assoc,Int.mul_comm _ (10000:Int)];omega
theorem Mk {bl L:List Int}{n i k:Nat}{V ai c m s:Int}(h:S.tI bl n i V ai k c L)(hi:i+k<n)(h2:S.PD bl)(ha:0<=ai/\ai<10000)
  (hk:k<bl.length\/k=bl.length) (hm:m=ai*bl[k]?.getD 0) (hs:s=c+L[i+k]?.getD 0+m) :
  0<=s/\s<100000000/\S.tI bl n i V ai (k+1) (s / 10000) (L.set (i+k) (s % 10000)):=by
 obtain ⟨hlen,hr,hz,hkl,c0,c1,ce,cs,he⟩:=h;obtain ⟨l0,l1⟩:=Ie hr (i+k);have hb:0<=bl[k]?.getD 0/\bl[k]?.getD 0<=10000/\(0<k->bl[k]?.getD 0<10000):=by
  cases e:bl[k]? with
  | none=>simp
  | some z=>exact h2 k z e
 obtain ⟨b0,b1,b2⟩:=hb;have m0:0<=m:=by rw[hm];exact Int.mul_nonneg ha.1 b0
 have m1:m<=9999*bl[k]?.getD 0:=by rw[hm];exact Int.mul_le_mul_of_nonneg_right (by omega) b0
 have hs1:0<=s/\s<100000000:=by
  by_cases hk0:k=0
  ·have:=cs hk0;omega
  ·have:=b2 (by omega);omega
 have hzk:k=bl.length->bl[k]?.getD 0=0:=λe=>by rw[List.getElem?_eq_none (by omega)];rfl
 have hst:S.OI (bl.take (k+1))=S.OI (bl.take k)+10000 ^ k*bl[k]?.getD 0:=by
  rcases hk with hk | hk
  ·obtain ⟨x,hx,ht,-⟩:=ae hk;rw[ht,kg,hx,List.length_take,Nat.min_eq_left (by omega)];simp[S.OI]
  ·rw[hzk hk,List.take_of_length_le (by omega),List.take_of_length_le (by omega)];simp
 refine ⟨hs1.1,hs1.2,by simpa using hlen,GD hr (by omega),λj h1 h3=>?_,by omega,by omega,by omega,λe=>?_,by omega,?_⟩
 ·rw[List.getElem?_set_ne (by omega)];exact hz j h1 (by omega)
 ·have e:k=bl.length:=by omega
  have h0:=hz (i+k) (by omega) (by omega);rw[hzk e,Int.mul_zero] at hm;rw[h0,hm] at hs;omega
 ·have hd:=CF (L:=L) (p:=i+k) (z:=s % 10000) (by omega);have:=Mj (c':=s / 10000) hd hs (by omega) he;rw[<-Nat.add_assoc,Int.pow_succ,this,hst,Int.mul_add,hm,Int.pow_add];congr 2;simp only[Int.mul_assoc,Int.mul_comm,Int.mul_left_comm]
theorem KA {bl L:List Int}{n i:Nat}{V ai:Int}(hlen:L.length=n)(hr:∀x∈L,0<=x/\x<10000)(hz:∀j,i+bl.length<=j->L[j]?.getD 0=0)(hV:S.OI L=V):S.tI bl n i V ai 0 0 L :=
 ⟨hlen,hr,λj h1 h2=>hz j h1,by omega,by omega,by omega,λ_=>rfl,λ_=>rfl,by simp[S.OI,hV]⟩
structure S.tO (al bl:List Int) (i:Nat) (L:List Int):Prop where
 len:L.length=al.length+bl.length
 rng:∀x∈L,0<=x/\x<10000
 zer:∀j,i+bl.length<=j->L[j]?.getD 0=0
 eq:S.OI L=S.OI (al.take i)*S.OI bl
theorem Az:∀n:Nat,S.OI (List.replicate n 0)=0
 | 0=>rfl
 | n+1=>by rw[List.replicate_succ,S.OI,Az n];rfl
theorem KB (al bl:List Int):S.tO al bl 0 (List.replicate (al.length+bl.length) 0):=by
 refine ⟨by simp,λx hx=>?_,λj _=>?_,by rw[Az];simp[S.OI]⟩
 ·have:=(List.mem_replicate.1 hx).2;omega
 ·rw[List.getElem?_replicate];split<;>rfl
theorem Ml {al bl L:List Int}{i k:Nat}{c x:Int}(hi:i<al.length)(hx:al[i]?=some x)(h:S.tI bl (al.length+bl.length) i (S.OI (al.take i)*S.OI bl) x k c L)(hk:bl.length<=k)(hc:c=0):S.tO al bl (i+1) L:=by obtain ⟨hlen,hr,hz,hkl,c0,c1,ce,cs,he⟩:=h;refine ⟨hlen,hr,λj h1=>hz j (by omega) (by omega),?_⟩;obtain ⟨y,hy,ht,-⟩:=ae hi;rw[hx] at hy;injection hy with hy;subst hy;rw[hc,Int.zero_mul,Int.add_zero,List.take_of_length_le hk] at he;rw[he,ht,kg,List.length_take,Nat.min_eq_left (by omega),Int.add_mul];simp[S.OI,Int.mul_comm]
theorem NN {al bl L:List Int}{x y:Nat}(h:S.tO al bl al.length L)(ha:S.OI al=(x:Int))(hb:S.OI bl=(y:Int))(hm:x*y<1000000000000000000000000000000000000000000000000):S.Pv L=S.dg (x*y):=by refine yi h.rng ?_ hm;rw[h.eq,List.take_length,ha,hb,Int.natCast_mul]
structure S.mI (al bl:List Int) (i:Nat) (r:Int) (L:List Int):Prop where
 len:L.length=i
 rng:∀x∈L,0<=x/\x<10000
 r01:r=0\/r=1
 eq:S.OI L=S.OI (al.take i) - S.OI (bl.take i)+r*10000 ^ i
theorem Jt (al bl:List Int):S.mI al bl 0 0 []:=⟨rfl,by simp,.inl rfl,by simp[S.OI]⟩
theorem Gn {al bl L:List Int}{i:Nat}{r x y e q:Int}(hi:i<al.length)(ha:∀x∈al,0<=x/\x<10000)(hb:∀x∈bl,0<=x/\x<10000)(h:S.mI al bl i r L)(hx:al[i]?=some x)(hy:bl[i]?.getD 0=y)
  (he:(x - r - y<0/\e=x - r - y+10000/\q=1)\/(0<=x - r - y/\e=x - r - y/\q=0)):S.mI al bl (i+1) q (L++[e]):=by
 obtain ⟨hlen,hr,h01,heq⟩:=h;have hx1:=ha x (List.mem_of_getElem? hx);have hy1:=Ie hb i;rw[hy] at hy1;have he1:0<=e/\e<10000:=by omega
 have hst:S.OI (bl.take (i+1))=S.OI (bl.take i)+10000 ^ i*y:=by
  by_cases hk:i<bl.length
  ·obtain ⟨z,hz,ht,-⟩:=ae hk;rw[ht,kg,List.length_take,Nat.min_eq_left (by omega)];rw[hz,Option.getD_some] at hy;simp[S.OI,hy]
  ·rw[List.getElem?_eq_none (by omega),Option.getD_none] at hy;rw[<-hy,List.take_of_length_le (by omega),List.take_of_length_le (by omega)];simp
 have hsa:S.OI (al.take (i+1))=S.OI (al.take i)+10000 ^ i*x:=by obtain ⟨z,hz,ht,-⟩:=ae hi;rw[hx] at hz;injection hz with hz;rw[ht,kg,List.length_take,Nat.min_eq_left (by omega),hz];simp[S.OI]
 refine ⟨by simp[hlen],λz hz=>?_,by omega,?_⟩
 ·rcases List.mem_append.1 hz with h1 | h1
  ·exact hr z h1
  ·rw[List.mem_singleton.1 h1];exact he1
 ·rw[kg,hlen,hst,hsa,heq,Int.pow_succ];have e1:e=x - r - y+10000*q:=by omega
  have e2:10000 ^ i*e=10000 ^ i*x - 10000 ^ i*r - 10000 ^ i*y+10000 ^ i*(10000*q):=by rw[e1];simp only[Int.mul_add,Int.mul_sub]
  have e3:q*(10000 ^ i*10000)=10000 ^ i*(10000*q):=by simp only[Int.mul_assoc,Int.mul_comm]
  have e4:r*10000 ^ i=10000 ^ i*r:=Int.mul_comm _ _;simp only[S.OI,Int.mul_zero,Int.add_zero];rw[e2,e3,e4];generalize (10000:Int) ^ i=U;generalize U*x=u1;generalize U*r=u2;generalize U*y=u3;generalize U*(10000*q)=u4;omega
theorem Nl {x y:Nat}{L:List Int}{r:Int}(hx:x<1000000000000000000000000000000000000000000000000)(hxy:y<=x)(h:S.mI (S.dg x) (S.dg y) (S.dg x).length r L):S.Pv L=S.dg (x - y):=by
 obtain ⟨hlen,hr,h01,heq⟩:=h;have hll:=Hj (show y<1000000000000000000000000000000000000000000000000 by omega) hx hxy;rw[List.take_length,List.take_of_length_le hll,oO x hx,oO y (by omega)] at heq;have hb:=kh hr;rw[hlen] at hb;have:r=0:=by
  rcases h01 with e | e
  ·exact e
  ·rw[e,Int.one_mul] at heq;omega
 rw[this,Int.zero_mul,Int.add_zero] at heq;exact yi hr (by omega) (by omega)
theorem Co {x y:Int}(h0:0<=x)(h1:x<9223372036854775808)(hy:0<y):cq .rem (.int .i64 x) (.int .i64 y)=.val (.int .i64 (x % y)):=by obtain ⟨n,rfl⟩:=Int.eq_ofNat_of_zero_le h0;obtain ⟨m,rfl⟩:=Int.eq_ofNat_of_zero_le (by omega:0<=y);have:=xA (x:=n) (y:=m) (by omega);rw[this,Int.natCast_emod]
theorem t8 {x y:Int}(h0:0<=x)(h1:x<9223372036854775808)(hy:0<y):cq .quo (.int .i64 x) (.int .i64 y)=.val (.int .i64 (x / y)):=by obtain ⟨n,rfl⟩:=Int.eq_ofNat_of_zero_le h0;obtain ⟨m,rfl⟩:=Int.eq_ofNat_of_zero_le (by omega:0<=y);have:=rV (x:=n) (y:=m) (by omega) (by omega);rw[this,Int.natCast_ediv]
theorem KF {d i:Nat}{v' w' u:AV}{al bl:List Int}{x V:Int}{Q:QT}{t:T}{g:G}{L:List Int}(hi:i<al.length)(hx:al[i]?=some x)(hx1:0<=x/\x<10000)(hla:al.length<=1000)(hlb:bl.length<=1000)(hb:S.PD bl)
  (ra:∀h,ah h 1 v'=some (al.map ci)) (rb:∀h,ah h 1 w'=some (bl.map ci)) (n2:∀g,cV .slice w' g=.val (.int .i64 (bl.length:Int)))
  (ht:St t [(0,v'),(1,w'),(5,u),(6,.int .i64 (i:Int)),(7,.int .i64 0),(8,.int .i64 0)]) (hu:Own g 0 u 1 (L.map ci)) (hI:S.tI bl (al.length+bl.length) i V x 0 0 L)
  (fin:∀t g L k,St t [(0,v'),(1,w'),(5,u),(6,.int .i64 (i:Int))]->Own g 0 u 1 (L.map ci)->S.tI bl (al.length+bl.length) i V x k 0 L->bl.length<=k->Q (.exit 2) t [] g) :
  wpL (wp C0 d none dj) Q t [] g:=by
 refine eW (λn t df g=>df=[]/\∃(k:Nat) (c:Int) (L:List Int),n=bl.length+2 - k/\St t [(0,v'),(1,w'),(5,u),(6,.int .i64 (i:Int)),(7,.int .i64 c),(8,.int .i64 (k:Int))]/\Own g 0 u 1 (L.map ci)/\S.tI bl (al.length+bl.length) i V x k c L) (bl.length+2)
  ⟨rfl,0,0,L,by omega,ht,hu,hI⟩ ?_
 rintro n t df g ⟨rfl,k,c,L,rfl,⟨h0,h1,h5,h6,h7,h8,-⟩,hu,hI⟩;have hkl:=hI.kle;have c0:=hI.c0;have c1:=hI.c1;have w1:IntKind.wrap .i64 ((i:Int)+(k:Int))=((i+k:Nat):Int):=by rw[ay (by omega) (by omega)];omega
 have w2:IntKind.wrap .i64 ((k:Int)+1)=((k+1:Nat):Int):=by rw[ay (by omega) (by omega)];omega
 have ur:=λg (hu:Own g 0 u 1 (L.map ci))=>hu.rows
 by_cases hk:k<bl.length\/(k=bl.length/\0<c)
 ·have hin:i+k<L.length:=by rw[hI.len];omega
  obtain ⟨p,hp,-,-⟩:=ae hin;obtain ⟨p0,p1⟩:=hI.rng p (List.mem_of_getElem? hp);have w3:IntKind.wrap .i64 (c+p)=c+p:=ay (by omega) (by omega);have q1:i+k<(L.map ci).length:=by simpa using hin
  have q2:(L.map ci)[i+k]?=some (ci p):=by rw[List.getElem?_map,hp];rfl
  have ur:=hu.rows;have key:∀s m:Int,m=x*bl[k]?.getD 0->s=c+p+m->0<=s/\s<100000000/\S.tI bl (al.length+bl.length) i V x (k+1) (s / 10000) (L.set (i+k) (s % 10000)):=λs m hm hs =>
   Mk hI (by rw[<-hI.len];exact hin) hb hx1 (by omega) hm (by rw[hp];exact hs)
  by_cases hk1:k<bl.length
  ·obtain ⟨y,hy,-,-⟩:=ae hk1;obtain ⟨y0,y1,-⟩:=hb k y hy;have q3:i<(al.map ci).length:=by simpa using hi
   have q4:(al.map ci)[i]?=some (ci x):=by rw[List.getElem?_map,hx];rfl
   have q5:k<(bl.map ci).length:=by simpa using hk1
   have q6:(bl.map ci)[k]?=some (ci y):=by rw[List.getElem?_map,hy];rfl
   have hkk:((k:Int)<(bl.length:Int)):=by omega
   obtain ⟨m,hm⟩:∃m,m=x*y:=⟨_,rfl⟩;have m0:0<=m:=by rw[hm];exact Int.mul_nonneg hx1.1 y0
   have m1:m<=10000*y:=by rw[hm];exact Int.mul_le_mul_of_nonneg_right (by omega) y0
   obtain ⟨s,hs⟩:∃s,s=c+p+m:=⟨_,rfl⟩;obtain ⟨s0,s1,hT⟩:=key s m (by rw[hy,Option.getD_some];exact hm) hs;have w4:IntKind.wrap .i64 (x*y)=m:=by rw[<-hm,ay (by omega) (by omega)]
   have w5:IntKind.wrap .i64 (c+p+m)=s:=by rw[<-hs,ay (by omega) (by omega)]
   have b1:=Co (x:=s) (y:=10000) s0 (by omega) (by decide);have b2:=t8 (x:=s) (y:=10000) s0 (by omega) (by decide);simp only[sz,simprocAttr,dj,h0,h1,h5,h6,h7,h8,n2,hkk,w1,w3,w4,w5,ur,q1,q2,q3,q4,q5,q6,ra,rb,ci,iq,ir,b1];refine cN (v:=u) (sz:=1) (n:=1) (i:=i+k) (off:=0) (x:=.int .i64 (s % 10000)) (row':=ci (s % 10000)) hu q2 rfl rfl rfl λg2 hu2 n2 f2=>?_;rw[o_] at hu2;simp only[sz,simprocAttr,h8,w2,b2];exact ⟨bl.length+2 - (k+1),by omega,k+1,s / 10000,_,rfl,by simp[St,sx,h0,h1,h5,h6],hu2,hT⟩
  ·have hkk:¬((k:Int)<(bl.length:Int)):=by omega
   have hc0:(0:Int)<c:=by omega
   have hb0:bl[k]?.getD 0=0:=by rw[List.getElem?_eq_none (by omega)];rfl
   obtain ⟨s,hs⟩:∃s,s=c+p:=⟨_,rfl⟩;obtain ⟨s0,s1,hT⟩:=key s 0 (by rw[hb0,Int.mul_zero]) (by omega);rw[<-hs] at w3;have b1:=Co (x:=s) (y:=10000) s0 (by omega) (by decide);have b2:=t8 (x:=s) (y:=10000) s0 (by omega) (by decide);simp only[sz,simprocAttr,dj,h1,h5,h6,h7,h8,n2,hkk,hc0,w1,w3,<-hs,ur,q1,q2,ci,iq,ir,b1];refine cN (v:=u) (sz:=1) (n:=1) (i:=i+k) (off:=0) (x:=.int .i64 (s % 10000)) (row':=ci (s % 10000)) hu q2 rfl rfl rfl λg2 hu2 n2 f2=>?_;rw[o_] at hu2;simp only[sz,simprocAttr,h8,w2,b2];exact ⟨bl.length+2 - (k+1),by omega,k+1,s / 10000,_,rfl,by simp[St,sx,h0,h1,h5,h6],hu2,hT⟩
 ·have hkk:¬((k:Int)<(bl.length:Int)):=by omega
  have hc:c=0:=by
   by_cases e:k=bl.length+1
   ·exact hI.ce e
   ·omega
  subst hc;simp only[sz,simprocAttr,dj,h1,h7,h8,n2,hkk,Int.lt_irrefl];refine fin _ _ L k ?_ hu hI (by omega);simp[St,sx,h0,h1,h5,h6]
theorem A0 {d k k2:Nat}{g:G}{P P2:Nat->Prop}{v w:AV}{x y:Nat}{bl:List Int}(hd:0<d)(hv:SlR P k g.h (S.dg x) v)(hw:SlR P2 k2 g.h bl w)(hx:x<1000000000000000000000000000000000000000000000000)(hb:S.PD bl)(hlb:bl.length<=100)(hy:S.OI bl=(y:Int))(hm:x*y<1000000000000000000000000000000000000000000000000) :
  ∃r,am C0 d N.O6 [v,w] g=.val r/\IT 0 (S.dg (x*y)) r:=by
 obtain ⟨v',e1,r1⟩:=be hv d;obtain ⟨w',e2,r2⟩:=be hw d;rw[vg];have hxv:=oO x hx;have ha:=tb x hx;have hla:=jo x;generalize S.dg x=al at *;refine aX yp (xs:=[v',w']) (by simp only[aE,e1,e2]) (by simp[mL]) (aS _) (by decide) hd ?_;have n1:=λg=>(r1 .nil).len g;have n2:=λg=>(r2 .nil).len g;have ra:∀h',ah h' 1 v'=some (al.map ci):=λh'=>(r1 h').ints;have rb:∀h',ah h' 1 w'=some (bl.map ci):=λh'=>(r2 h').ints;have w1:IntKind.wrap .i64 ((al.length:Int)+(bl.length:Int))=((al.length+bl.length:Nat):Int):=by rw[ay (by omega) (by omega)];omega
 simp only[sz,simprocAttr,mL,n1,n2,w1];refine rR (b:=0) (n:=al.length+bl.length) (by simp[aP];omega) (by simp[aP];omega) (Nat.zero_le _) λu g1 hu hn1 hf1 hvid=>?_;have hu:Own g1 0 u 1 ((List.replicate (al.length+bl.length) (0:Int)).map ci):=by simpa [ci] using hu
 simp only[sz,simprocAttr,nE];refine mz (m:=al.length) (v:=v') (by omega) n1 (λi t df g=>df=[]/\St t [(1,w'),(5,u)]/\∃L,Own g 0 u 1 (L.map ci)/\S.tO al bl i L) ⟨rfl,by simp[St,sx],_,hu,KB al bl⟩ (by simp[sx]) (by simp[sx]) (by decide) (by rintro j t df g v s (rfl | rfl | rfl | rfl | rfl | rfl | rfl)<;>simp[St,sx]) ?_ ?_
 ·rintro i t df g hi ⟨rfl,⟨h1,h5,-⟩,L,hu,hO⟩ h6 h0;obtain ⟨p,hp,-,hpm⟩:=ae hi;simp only[sz,simprocAttr];refine KF (V:=S.OI (al.take i)*S.OI bl) (L:=L) hi hp (ha p hpm) (by omega) (by omega) hb ra rb n2 (by simp[St,sx,h0,h1,h5,h6]) hu (KA hO.len hO.rng hO.zer hO.eq) ?_;rintro t g L k ⟨h0,h1,h5,h6,-⟩ hu hI hk;simp only[sx,sy,↓reduceIte];refine ⟨⟨?_,L,hu,Ml hi hp hI hk rfl⟩,h6,h0⟩;simp[St,h1,h5]
 ·rintro t df g ⟨rfl,⟨h1,h5,-⟩,L,hu,hO⟩ h0;have hll:L.length<=200:=by have:=hO.len;omega
  have e3:=NN hO hxv hy hm;simp only[sz,simprocAttr,nF,h5];refine yj hu (by omega) λv2 hv2=>?_;rw[e3] at hv2;simp only[sz,simprocAttr];exact ⟨_,v2,rfl,hv2⟩
theorem Da {d i:Nat}{v' w' u:AV}{e0:Int}{L:List Int}{Q:QT}{t:T}{g:G}(ht:St t [(0,v'),(1,w'),(7,.int .i64 (i:Int)),(8,.int .i64 e0)])(h5:tat t 5=u)(hu:Own g 0 u 1 (L.map ci))(hL:L.length<=100)(he:-20000<e0/\e0<20000)
  (fin:∀t g u e q,(e0<0/\e=e0+10000/\q=1)\/(0<=e0/\e=e0/\q=0)->St t [(0,v'),(1,w'),(7,.int .i64 (i:Int))]->tat t 5=u->tat t 6=.int .i64 q->Own g 0 u 1 ((L++[e]).map ci)->Q .norm t [] g) :
  wp C0 d none eG Q t [] g:=by
 obtain ⟨h0,h1,h7,h8,-⟩:=ht
 by_cases h:e0<0
 ·have w1:IntKind.wrap .i64 (e0+10000)=e0+10000:=ay (by omega) (by omega);simp only[sz,simprocAttr,eG,ip,h5,h8,h,w1];refine aU (new:=[ci (e0+10000)]) (hu.step (Fr.new _ _)) (by simp[sx,sy,ci]) (by simp<;>omega) (by simp[aP]<;>omega) λv2 g2 hv2 n2 f2 _ l2=>?_;simp only[sz,simprocAttr];exact fin _ _ v2 _ _ (.inl ⟨h,rfl,rfl⟩) (by simp[St,sx,h0,h1,h7]) (by simp[sx]) (by simp[sx]) (by simpa using hv2)
 ·simp only[sz,simprocAttr,eG,ip,h5,h8,h];refine aU (new:=[ci e0]) (hu.step (Fr.new _ _)) (by simp[sx,sy,ci]) (by simp<;>omega) (by simp[aP]<;>omega) λv2 g2 hv2 n2 f2 _ l2=>?_;simp only[sz,simprocAttr];exact fin _ _ v2 _ _ (.inr ⟨by omega,rfl,rfl⟩) (by simp[St,sx,h0,h1,h7]) (by simp[sx]) (by simp[sx]) (by simpa using hv2)
theorem HL {d k k2:Nat}{g:G}{P P2:Nat->Prop}{v w:AV}{x y:Nat}(hd:0<d)(hv:SlR P k g.h (S.dg x) v)(hw:SlR P2 k2 g.h (S.dg y) w)(hx:x<1000000000000000000000000000000000000000000000000)(hxy:y<=x) :
  ∃r,am C0 d N.Pm [v,w] g=.val r/\IT 0 (S.dg (x - y)) r:=by
 obtain ⟨v',e1,r1⟩:=be hv d;obtain ⟨w',e2,r2⟩:=be hw d;rw[ve];have ha:=tb x hx;have hb:=tb y (by omega);have hla:=jo x;have hlb:=jo y;refine aX yn (xs:=[v',w']) (by simp only[aE,e1,e2]) (by simp[mK]) (aS _) (by decide) hd ?_;have n1:=λg=>(r1 .nil).len g;have n2:=λg=>(r2 .nil).len g;have ra:∀h',ah h' 1 v'=some ((S.dg x).map ci):=λh'=>(r1 h').ints;have rb:∀h',ah h' 1 w'=some ((S.dg y).map ci):=λh'=>(r2 h').ints;simp only[sz,simprocAttr,mK,nC];refine mz (m:=(S.dg x).length) (v:=v') (by omega) n1 (λi t df g=>df=[]/\St t [(1,w')]/\∃(u:AV) (r:Int) (L:List Int),tat t 5=u/\tat t 6=.int .i64 r/\Own g 0 u 1 (L.map ci)/\S.mI (S.dg x) (S.dg y) i r L) ⟨rfl,by simp[St,sx],.nils,0,[],by simp[sx],by simp[sx],.inl ⟨rfl,rfl⟩,Jt _ _⟩ (by simp[sx]) (by simp[sx]) (by decide) (by rintro j t df g v s (rfl | rfl | rfl | rfl | rfl | rfl | rfl)<;>simp[St,sx]) ?_ ?_
 ·rintro i t df g hi ⟨rfl,⟨h1,-⟩,u,r,L,h5,h6,hu,hI⟩ h7 h0;obtain ⟨p,hp,-,hpm⟩:=ae hi;have hp1:=ha p hpm;have q1:i<((S.dg x).map ci).length:=by simpa using hi
  have q2:((S.dg x).map ci)[i]?=some (ci p):=by rw[List.getElem?_map,hp];rfl
  have r01:=hI.r01;have hLl:=hI.len;have w1:IntKind.wrap .i64 (p - r)=p - r:=ay (by omega) (by omega)
  by_cases hk:i<(S.dg y).length
  ·obtain ⟨q,hq,-,hqm⟩:=ae hk;have hq1:=hb q hqm;have q3:i<((S.dg y).map ci).length:=by simpa using hk
   have q4:((S.dg y).map ci)[i]?=some (ci q):=by rw[List.getElem?_map,hq];rfl
   have hkk:(i:Int)<((S.dg y).length:Int):=by omega
   have w2:IntKind.wrap .i64 (p - r - q)=p - r - q:=ay (by omega) (by omega);simp only[sz,simprocAttr,h0,h1,h6,h7,n2,ra,rb,q1,q2,q3,q4,ci,w1,w2,hkk];refine Da (v':=v') (w':=w') (i:=i) (e0:=p - r - q) (by simp[St,sx,h0,h1,h7]) (by simp[sx,h5]) hu (by omega) (by omega) ?_;rintro t g u e z he ⟨h0,h1,h7,-⟩ h5 h6 hu;simp only[sy];exact ⟨⟨by simp[St,h1],u,z,_,h5,h6,hu,Gn hi ha hb hI hp (by rw[hq];rfl) he⟩,h7,h0⟩
  ·have hkk:¬(i:Int)<((S.dg y).length:Int):=by omega
   simp only[sz,simprocAttr,h0,h1,h6,h7,n2,ra,q1,q2,ci,w1,hkk];refine Da (v':=v') (w':=w') (i:=i) (e0:=p - r) (by simp[St,sx,h0,h1,h7]) (by simp[sx,h5]) hu (by omega) (by omega) ?_;rintro t g u e z he ⟨h0,h1,h7,-⟩ h5 h6 hu;simp only[sy];exact ⟨⟨by simp[St,h1],u,z,_,h5,h6,hu,Gn (y:=0) (e:=e) (q:=z) (x:=p) (r:=r) hi ha hb hI hp (by rw[List.getElem?_eq_none (by omega)];rfl) (by omega)⟩,h7,h0⟩
 ·rintro t df g ⟨rfl,⟨h1,-⟩,u,r,L,h5,h6,hu,hI⟩ h0;have hll:L.length<=200:=by have:=hI.len;omega
  have e3:=Nl hx hxy hI;simp only[sz,simprocAttr,nD,h5];refine yj hu (by omega) λv2 hv2=>?_;rw[e3] at hv2;simp only[sz,simprocAttr];exact ⟨_,v2,rfl,hv2⟩
theorem Iz {A a b:Nat}:(10000*A+a) / b=10000*(A / b)+(10000*(A % b)+a) / b:=by
 rcases Nat.eq_zero_or_pos b with rfl | hb
 ·simp
 have h1:=Nat.div_add_mod A b;have h2:10000*A+a=(10000*(A % b)+a)+b*(10000*(A / b)):=by
  have:10000*(b*(A / b)+A % b)=10000*A:=by rw[h1]
  rw[Nat.mul_add,Nat.mul_left_comm] at this;omega
 rw[h2,Nat.add_mul_div_left _ _ hb,Nat.add_comm]
theorem Jw {A a b:Nat}:(10000*A+a) % b=(10000*(A % b)+a) % b:=by
 have h1:=Nat.div_add_mod A b;have h2:10000*A+a=(10000*(A % b)+a)+b*(10000*(A / b)):=by
  have:10000*(b*(A / b)+A % b)=10000*A:=by rw[h1]
  rw[Nat.mul_add,Nat.mul_left_comm] at this;omega
 rw[h2,Nat.add_mul_mod_self_left]
theorem Nh {r a b:Nat}(hr:r<b)(ha:a<10000):(10000*r+a) / b<10000:=by refine Nat.div_lt_of_lt_mul ?_;have:r+1<=b:=hr;have:=Nat.mul_le_mul_right 10000 this;omega
theorem Iy {r a b:Nat}(hr:r<b)(ha:a<10000):10000*r+a<10000*b:=by omega
theorem Lh {R b M:Nat}(hb:0<b)(hM:0<M):R / M / (b / M+1)<=R / b:=by
 refine (Nat.le_div_iff_mul_le hb).2 ?_;have h1:R / M / (b / M+1)*(b / M+1)<=R / M:=Nat.div_mul_le_self _ _;have h2:R / M*M<=R:=Nat.div_mul_le_self _ _;have h3:b<=(b / M+1)*M:=by have:=Nat.div_add_mod b M;have h4:=Nat.mod_lt b hM;rw[Nat.add_mul,Nat.one_mul,Nat.mul_comm];omega
 calc R / M / (b / M+1)*b<=R / M / (b / M+1)*((b / M+1)*M):=Nat.mul_le_mul_left _ h3
  _=R / M / (b / M+1)*(b / M+1)*M:=by rw[Nat.mul_assoc]
  _<=R / M*M:=Nat.mul_le_mul_right _ h1
  _<=R:=h2
theorem Ix {R b M:Nat}(hM:0<M)(ht:0<b / M):R / b<=R / M / (b / M):=by
 refine (Nat.le_div_iff_mul_le ht).2 ((Nat.le_div_iff_mul_le hM).2 ?_);have h1:b / M*M<=b:=Nat.div_mul_le_self _ _
 calc R / b*(b / M)*M=R / b*(b / M*M):=by rw[Nat.mul_assoc]
  _<=R / b*b:=Nat.mul_le_mul_left _ h1
  _<=R:=Nat.div_mul_le_self _ _
theorem Li {R b M:Nat}(hM:0<M)(hR:R<10000*b)(ht:0<b / M)(h:M=1\/10000<=b / M):R / M / (b / M)<=10000:=by
 rcases h with rfl | h
 ·rw[Nat.div_one,Nat.div_one];have:R / b<10000:=Nat.div_lt_of_lt_mul (by rw[Nat.mul_comm];exact hR);omega
 ·have h3:b<(b / M+1)*M:=by have:=Nat.div_add_mod b M;have h4:=Nat.mod_lt b hM;rw[Nat.add_mul,Nat.one_mul,Nat.mul_comm];omega
  have h4:R / M<10000*(b / M+1):=by
   refine Nat.div_lt_of_lt_mul ?_;have:=Nat.mul_lt_mul_of_pos_left h3 (show 0<10000 by decide);have e:10000*((b / M+1)*M)=M*(10000*(b / M+1)):=by simp only[Nat.mul_assoc,Nat.mul_comm]
   omega
  refine Nat.le_of_lt_succ (Nat.div_lt_of_lt_mul ?_);have e:b / M*(10000+1)=10000*(b / M)+b / M:=by omega
  rw[Nat.succ_eq_add_one,e];omega
theorem IA {L:List Int}{i:Nat}{z:Int}(h:i<L.length):(L.set i z).drop i=z::L.drop (i+1):=by
 rw[List.drop_eq_getElem_cons (by simpa using h)];congr 1
 ·simp
 ·rw[List.drop_set,if_pos (by omega)]
theorem Ev {x b i:Nat}:x / 10000 ^ i / b=10000*(x / 10000 ^ (i+1) / b)+(10000*(x / 10000 ^ (i+1) % b)+x / 10000 ^ i % 10000) / b:=by rw[<-Iz,Nat.pow_succ,<-Nat.div_div_eq_div_mul];congr 1;have:=Nat.div_add_mod (x / 10000 ^ i) 10000;omega
theorem EL {x b i:Nat}:x / 10000 ^ i % b=(10000*(x / 10000 ^ (i+1) % b)+x / 10000 ^ i % 10000) % b:=by rw[<-Jw,Nat.pow_succ,<-Nat.div_div_eq_div_mul];congr 1;have:=Nat.div_add_mod (x / 10000 ^ i) 10000;omega
structure S.qI (x b n:Nat) (i:Nat) (L:List Int):Prop where
 len:L.length=n
 rng:∀z∈L,0<=z/\z<10000
 eq:S.OI (L.drop i)=((x / 10000 ^ i / b:Nat):Int)
theorem JW {x b n:Nat}(h:x / 10000 ^ n<b):S.qI x b n n (List.replicate n 0):=by
 refine ⟨by simp,λz hz=>?_,?_⟩
 ·have:=(List.mem_replicate.1 hz).2;omega
 ·rw[Nat.div_eq_of_lt h,List.drop_of_length_le (by simp)];rfl
theorem LQ {x b n i q:Nat}{L:List Int}(h:S.qI x b n (i+1) L)(hb:0<b)(hi:i<n)(hq:q=(10000*(x / 10000 ^ (i+1) % b)+x / 10000 ^ i % 10000) / b):S.qI x b n i (L.set i (q:Int)):=by obtain ⟨hlen,hr,he⟩:=h;have h1:=Nh (Nat.mod_lt (x / 10000 ^ (i+1)) hb) (Nat.mod_lt (x / 10000 ^ i) (show 0<10000 by decide));rw[<-hq] at h1;refine ⟨by simpa using hlen,GD hr (by omega),?_⟩;rw[IA (by omega),S.OI,he,Ev (x:=x) (b:=b) (i:=i),<-hq];omega
theorem Nw {x b n:Nat}{L:List Int}(h:S.qI x b n 0 L)(hx:x<1000000000000000000000000000000000000000000000000):S.Pv L=S.dg (x / b):=by have:=Nat.div_le_self x b;refine yi h.rng ?_ (by omega);have he:=h.eq;rw[Nat.pow_zero,Nat.div_one,List.drop_zero] at he;exact he
theorem lF {R i j:Nat}(h:R<10000 ^ (i+j)):R / 10000 ^ i<10000 ^ j:=Nat.div_lt_of_lt_mul (by rw[<-Nat.pow_add];exact h)
theorem vE (R j:Nat):R / 10000 ^ j=R / 10000 ^ (j+1)*10000+R / 10000 ^ j % 10000:=by have:=Nat.div_add_mod (R / 10000 ^ j) 10000;rw[Nat.pow_succ,<-Nat.div_div_eq_div_mul];omega
theorem Mb {w:AV}{l:List Int}{k:Nat}(hw:SlR NoP k .nil l w)(hne:l≠[]){c:Nat}(hc:c<=l.length) :
  ∃w',(∀g,lR 1 w (some (.int .i64 (c:Int))) none g=.val w')/\SlR NoP k .nil (l.drop c) w':=by
 have hlt:(l.drop c).length<9223372036854775808:=by have:=hw.1;rw[List.length_drop];omega
 have h:=hw.2;unfold SlV at h
 split at h
 ·exact absurd h hne
 ·exact absurd h hne
 ·rename_i t s rows;obtain ⟨h0,h1,h2⟩:=h;have hlen:=h2.len;have hs:s=1:=by
   rcases h1 with e | e
   ·exact e
   ·rw[e] at hlen;simp at hlen;exact absurd hlen hne
  subst hs;refine ⟨.tsl t 1 (rows.drop c),λg=>?_,hlt,h0,.inl rfl,h2.drop c⟩;show orV (match aQ (aY rows) (aY rows) none with
   | none=>none
   | some h=>match aQ 0 h (some (.int .i64 (.ofNat c))) with
    | none=>none
    | some l=>au (Nat.beq 1 1) (some (.tsl t 1 (eO (h - l) (dZ l rows)))) none)=_
  show orV (match aQ 0 (aY rows) (some (.int .i64 (.ofNat c))) with
    | none=>none
    | some l=>au (Nat.beq 1 1) (some (.tsl t 1 (eO (aY rows - l) (dZ l rows)))) none)=_
  have:aQ 0 (aY rows) (some (.int .i64 (.ofNat c)))=some c:=by show au (Nat.ble c (aY rows)) (some c) none=_;rw[aa,if_pos];rw[aw,<-hlen];simp;omega
  rw[this];show orV (au (Nat.beq 1 1) (some (AV.tsl t 1 (eO (aY rows - c) (dZ c rows)))) none)=_;rw[show Nat.beq 1 1=true from rfl,bif'_true,bh,bg,List.take_of_length_le (by rw[List.length_drop,aw];exact Nat.le_refl _)];rfl
 ·exact h.1.elim
 ·exact h.elim
theorem Iq {a b:Nat}(h:a<=b):S.Ph a b<=0:=by unfold S.Ph;split<;>first | omega | (split<;>omega)
theorem Nd {a b:Nat}(h:¬a<=b):¬S.Ph a b<=0:=by unfold S.Ph;rw[if_neg (by omega),if_neg (by omega)];omega
theorem Iw {m:Nat}(h:m<=10000):S.PD [(m:Int)]:=λk z hz=>by
 cases k with
 | zero=>simp at hz;omega
 | succ k=>simp at hz
theorem Lg {m:Nat}(h:m<1000000000000000000000000000000000000000000000000):S.PD (S.dg m):=λk z hz=>by have:=tb m h z (List.mem_of_getElem? hz);omega
theorem Dq (g:G)(x:Int):Own (g.new (.cells 1 [[.int .i64 x]] 0 false false)) 0 (.hsl g.nx 0 0 1 none) 1 ([x].map ci):=.inr ⟨g.nx,0,false,Nat.zero_le _,by simp,rfl,by simp[aR,ci]⟩
def Dv (v w q r:AV)(n:Nat):List (Nat×AV):=[(0,v),(1,w),(6,.int .i64 (n:Int)),(7,q),(8,r)]
theorem Lj {d k i n lo hi:Nat}{v w uq rest:AV}{y R:Nat}{P:Nat->Prop}{Q:QT}{t:T}{g:G}(hd:0<d)(hw:∀h,SlR NoP k h (S.dg y) w)(hy0:0<y)(hy:y*10000<1000000000000000000000000000000000000000000000000)(hR:R<1000000000000000000000000000000000000000000000000)
  (hr:SlR P 0 g.h (S.dg R) rest) (hP:∀i,P i->i<g.nx) (ht:St t ((9,.int .i64 (i:Int))::Dv v w uq rest n)) (h13:tat t 13=.int .i64 (lo:Int)) (h14:tat t 14=.int .i64 (hi:Int)) (hlo:lo<=R / y) (hhi:R / y<=hi) (hh:hi<=10000)
  (fin:∀t g',Fr g g'->St t ((9,.int .i64 (i:Int))::Dv v w uq rest n)->tat t 13=.int .i64 ((R / y:Nat):Int)->Q (.exit 4) t [] g') :
  wpL (wp C0 d none dV) Q t [] g:=by
 refine eW (λz t df g'=>df=[]/\∃lo hi:Nat,z=hi - lo/\lo<=R / y/\R / y<=hi/\hi<=10000/\Fr g g'/\St t ((9,.int .i64 (i:Int))::Dv v w uq rest n)/\tat t 13=.int .i64 (lo:Int)/\tat t 14=.int .i64 (hi:Int)) (hi - lo)
  ⟨rfl,lo,hi,rfl,hlo,hhi,hh,Fr.refl _,ht,h13,h14⟩ ?_
 rintro z t df g' ⟨rfl,lo,hi,rfl,hlo,hhi,hh,hf,⟨h9,h0,h1,h6,h7,h8,-⟩,h13,h14⟩
 by_cases hlt:lo<hi
 ·have hltI:(lo:Int)<(hi:Int):=by omega
  obtain ⟨mid,hmid⟩:∃mid:Nat,mid=(lo+hi+1) / 2:=⟨_,rfl⟩;have w1:IntKind.wrap .i64 ((lo:Int)+(hi:Int))=(lo:Int)+(hi:Int):=ay (by omega) (by omega);have w2:IntKind.wrap .i64 ((lo:Int)+(hi:Int)+1)=(lo:Int)+(hi:Int)+1:=ay (by omega) (by omega);have b1:cq .quo (.int .i64 ((lo:Int)+(hi:Int)+1)) (.int .i64 2)=.val (.int .i64 (mid:Int)):=by rw[t8 (by omega) (by omega) (by decide)];congr 2;omega
  have m1:y*mid<=y*10000:=Nat.mul_le_mul_left _ (by omega);have hiff:mid<=R / y↔y*mid<=R:=by rw[Nat.le_div_iff_mul_le hy0,Nat.mul_comm]
  simp only[sz,simprocAttr,dV,h1,h13,h14,hltI,w1,w2,b1];have ho:=Dq g' (mid:Int);refine a_ (A0 (d:=d) (x:=y) (y:=mid) hd (hw _) (ho.sl (α:=Int) (k:=0) (P:=λ_=>True) (by simp) (All2.of_map (λa=>aL.2 rfl) _) λ_ _=>trivial) (by omega) (Iw (by omega)) (by simp) (by simp[S.OI]) (by omega)) λr hr2=>?_;simp only[sz,simprocAttr,h8];have hf2:Fr g (g'.new (.cells 1 [[.int .i64 (mid:Int)]] 0 false false)):=hf.trans (Fr.new _ _);refine a_ (Q:=λz=>z=.int .i64 (S.Ph (y*mid) R)) ⟨_,yf hd (hr2.sl _) (hr.far8 (h':=(g'.new (.cells 1 [[.int .i64 (mid:Int)]] 0 false false)).h) λi hi=>hf2.2 i (hP i hi)) (by omega) hR,rfl⟩ ?_;rintro _ rfl
  by_cases hle:y*mid<=R
  ·have hc:=Iq hle;simp only[sz,simprocAttr,hc];refine ⟨hi - mid,by omega,mid,hi,rfl,hiff.2 hle,hhi,hh,hf2,?_,?_,?_⟩<;>simp[St,Dv,sx,h0,h1,h6,h7,h8,h9,h14]
  ·have hc:=Nd hle;have w3:IntKind.wrap .i64 ((mid:Int) - 1)=((mid - 1:Nat):Int):=by rw[ay (by omega) (by omega)];omega
   have:¬mid<=R / y:=λe=>hle (hiff.1 e);simp only[sz,simprocAttr,hc,w3];refine ⟨mid - 1 - lo,by omega,lo,mid - 1,rfl,hlo,by omega,by omega,hf2,?_,?_,?_⟩<;>simp[St,Dv,sx,h0,h1,h6,h7,h8,h9,h13]
 ·have hltI:¬(lo:Int)<(hi:Int):=by omega
  have e:lo=R / y:=by omega
  simp only[sz,simprocAttr,dV,h13,h14,hltI];refine fin _ g' hf ?_ ?_
  ·simp[St,Dv,sx,h0,h1,h6,h7,h8,h9]
  ·simp[sx,h13,e]
theorem Lk {d k i n:Nat}{v w uq rest:AV}{y R m:Nat}{P:Nat->Prop}{Q:QT}{t:T}{g:G}(hw:∀h,SlR NoP k h (S.dg y) w)(hm:m=n - 1)(hn:n+1=(S.dg y).length)(hy:y<1000000000000000000000000000000000000000000000000)(hR:R<1000000000000000000000000000000000000000000000000)(hRy:R<10000*y)
  (hr:SlR P 0 g.h (S.dg R) rest) (ht:St t ((9,.int .i64 (i:Int))::Dv v w uq rest n)) (h10:tat t 10=.int .i64 0) (h11:tat t 11=.int .i64 0) (h12:tat t 12=.int .i64 ((n:Int)+1))
  (fin:∀t,St t ((9,.int .i64 (i:Int))::Dv v w uq rest n)->tat t 10=.int .i64 ((y / 10000 ^ m:Nat):Int)->tat t 11=.int .i64 ((R / 10000 ^ m:Nat):Int)->Q (.exit 2) t [] g) :
  wpL (wp C0 d none cP) Q t [] g:=by
 have hly:=jo y;have yb:y<10000 ^ (n+1):=by rw[hn];exact uk hy
 have rb2:R<10000 ^ (n+2):=by rw[Nat.pow_succ];omega
 have hrl:=hr.len;have hrr:=hr.ints;have hwl:=λg=>(hw .nil).len g;have hwr:∀h,ah h 1 w=some ((S.dg y).map ci):=λh=>(hw h).ints;have lr:=jo R;refine eW (λz t df g'=>df=[]/\g'=g/\∃j:Nat,z=j/\m<=j/\j<=n+2/\St t ((9,.int .i64 (i:Int))::Dv v w uq rest n)/\tat t 10=.int .i64 ((y / 10000 ^ j:Nat):Int)/\tat t 11=.int .i64 ((R / 10000 ^ j:Nat):Int)/\tat t 12=.int .i64 ((j:Int) - 1)) (n+2)
  ⟨rfl,rfl,n+2,rfl,by omega,by omega,ht,?_,?_,?_⟩ ?_
 ·rw[h10,Nat.div_eq_of_lt (Nat.lt_of_lt_of_le yb (Nat.pow_le_pow_right (by decide) (by omega)))];rfl
 ·rw[h11,Nat.div_eq_of_lt rb2];rfl
 ·rw[h12];congr 1;omega
 rintro j t df g' ⟨rfl,rfl,_,rfl,hmj,hjn,⟨h9,h0,h1,h6,h7,h8,-⟩,h10,h11,h12⟩;have w1:IntKind.wrap .i64 ((n:Int) - 1)=(n:Int) - 1:=ay (by omega) (by omega);have m1:max 0 ((n:Int) - 1)=(m:Int):=by omega
 by_cases hj:m<j
 ·have hjI:(m:Int)<=(j:Int) - 1:=by omega
  obtain ⟨k,rfl⟩:∃k,j=k+1:=⟨j - 1,by omega⟩;have ek:((k+1:Nat):Int) - 1=(k:Int):=by omega
  rw[ek] at h12 hjI;have f1:R / 10000 ^ (k+1)<10000 ^ 2:=Nat.lt_of_lt_of_le (lF (i:=k+1) (j:=n+2 - (k+1)) (by rw[show k+1+(n+2 - (k+1))=n+2 by omega];exact rb2)) (Nat.pow_le_pow_right (by decide) (by omega));have f2:y / 10000 ^ (k+1)<10000 ^ 2:=Nat.lt_of_lt_of_le (lF (i:=k+1) (j:=n+2 - (k+1)) (by rw[show k+1+(n+2 - (k+1))=n+2 by omega];exact Nat.lt_of_lt_of_le yb (Nat.pow_le_pow_right (by decide) (by omega)))) (Nat.pow_le_pow_right (by decide) (by omega));have s1:=vE R k;have s2:=vE y k;have g1:=ta k R hR;have g2:=ta k y hy;have l1:=Nat.mod_lt (R / 10000 ^ k) (show 0<10000 by decide);have l2:=Nat.mod_lt (y / 10000 ^ k) (show 0<10000 by decide);have p2:10000 ^ 2=100000000:=rfl;rw[p2] at f1 f2;generalize R / 10000 ^ (k+1)=F at *;generalize y / 10000 ^ (k+1)=U at *;generalize R / 10000 ^ k % 10000=a at *;generalize y / 10000 ^ k % 10000=b at *;have w2:IntKind.wrap .i64 ((F:Int)*10000)=((F*10000:Nat):Int):=by rw[ay (by omega) (by omega)];omega
  have tail:∀t,St t ((9,.int .i64 (i:Int))::Dv v w uq rest n)->tat t 10=.int .i64 (U:Int)->tat t 11=.int .i64 ((R / 10000 ^ k:Nat):Int)->tat t 12=.int .i64 (k:Int) ->
    wp C0 d none dW (λe t df g2=>e=.norm/\df=[]/\g2=g'/\St t ((9,.int .i64 (i:Int))::Dv v w uq rest n)/\tat t 10=.int .i64 ((y / 10000 ^ k:Nat):Int)/\tat t 11=.int .i64 ((R / 10000 ^ k:Nat):Int)/\tat t 12=.int .i64 (k:Int)) t [] g':=by
   rintro t ⟨h9,h0,h1,h6,h7,h8,-⟩ h10 h11 h12
   by_cases hk:k<=n
   ·have hkI:(k:Int)<=(n:Int):=by omega
    have hkl:k<(S.dg y).length:=by omega
    obtain ⟨q,hq,-,-⟩:=ae hkl;have q1:k<((S.dg y).map ci).length:=by simpa using hkl
    have q2:((S.dg y).map ci)[k]?=some (ci q):=by rw[List.getElem?_map,hq];rfl
    rw[hq,Option.getD_some] at g2;subst g2;have w3:IntKind.wrap .i64 ((U:Int)*10000)=((U*10000:Nat):Int):=by rw[ay (by omega) (by omega)];omega
    have w4:IntKind.wrap .i64 (((U*10000:Nat):Int)+(b:Int))=((y / 10000 ^ k:Nat):Int):=by rw[s2,ay (by omega) (by omega)];omega
    simp only[sz,simprocAttr,dW,h1,h6,h10,h11,h12,hkI,hwr,q1,q2,ci,w3,w4];simp[St,Dv,sx,h0,h1,h6,h7,h8,h9]
   ·have hkI:¬(k:Int)<=(n:Int):=by omega
    have hb0:b=0:=by rw[List.getElem?_eq_none (by omega),Option.getD_none] at g2;omega
    have hU:y / 10000 ^ k=0:=Nat.div_eq_of_lt (Nat.lt_of_lt_of_le yb (Nat.pow_le_pow_right (by decide) (by omega)));have hU0:U=0:=by omega
    simp only[sz,simprocAttr,dW,h6,h10,h11,h12,hkI];simp[St,Dv,sx,h0,h1,h6,h7,h8,h9,hU,hU0]
  have hin:=hrr
  by_cases hk:k<(S.dg R).length
  ·have hkI:(k:Int)<((S.dg R).length:Int):=by omega
   obtain ⟨p,hp,-,-⟩:=ae hk;have q1:k<((S.dg R).map ci).length:=by simpa using hk
   have q2:((S.dg R).map ci)[k]?=some (ci p):=by rw[List.getElem?_map,hp];rfl
   rw[hp,Option.getD_some] at g1;subst g1;have w3:IntKind.wrap .i64 (((F*10000:Nat):Int)+(a:Int))=((R / 10000 ^ k:Nat):Int):=by rw[s1,ay (by omega) (by omega)];omega
   simp only[sz,simprocAttr,cP,h6,h8,h11,h12,w1,m1,hjI,w2,hrl,hkI,hin,q1,q2,ci,w3];refine bQ _ (tail _ (by simp[St,Dv,sx,h0,h1,h6,h7,h8,h9]) (by simp[sx,h10]) (by simp[sx]) (by simp[sx,h12])) ?_;rintro e t df g2 ⟨rfl,rfl,rfl,⟨h9,h0,h1,h6,h7,h8,-⟩,h10,h11,h12⟩;have w5:IntKind.wrap .i64 ((k:Int) - 1)=(k:Int) - 1:=ay (by omega) (by omega);simp only[sz,simprocAttr,gJ,h12,w5];refine ⟨k,by omega,k,rfl,by omega,by omega,?_,?_,?_,?_⟩<;>simp[St,Dv,sx,h0,h1,h6,h7,h8,h9,h10,h11]
  ·have hkI:¬(k:Int)<((S.dg R).length:Int):=by omega
   have ha0:a=0:=by rw[List.getElem?_eq_none (by omega),Option.getD_none] at g1;omega
   have w3:((F*10000:Nat):Int)=((R / 10000 ^ k:Nat):Int):=by rw[s1];omega
   simp only[sz,simprocAttr,cP,h6,h8,h11,h12,w1,m1,hjI,w2,hrl,hkI];refine bQ _ (tail _ (by simp[St,Dv,sx,h0,h1,h6,h7,h8,h9]) (by simp[sx,h10]) (by simp[sx,w3]) (by simp[sx,h12])) ?_;rintro e t df g2 ⟨rfl,rfl,rfl,⟨h9,h0,h1,h6,h7,h8,-⟩,h10,h11,h12⟩;have w5:IntKind.wrap .i64 ((k:Int) - 1)=(k:Int) - 1:=ay (by omega) (by omega);simp only[sz,simprocAttr,gJ,h12,w5];refine ⟨k,by omega,k,rfl,by omega,by omega,?_,?_,?_,?_⟩<;>simp[St,Dv,sx,h0,h1,h6,h7,h8,h9,h10,h11]
 ·have hjI:¬(m:Int)<=(j:Int) - 1:=by omega
  have e:j=m:=by omega
  subst e;simp only[sz,simprocAttr,cP,h6,h12,w1,m1,hjI];refine fin _ ?_ ?_ ?_
  ·simp[St,Dv,sx,h0,h1,h6,h7,h8,h9]
  ·simp[sx,h10]
  ·simp[sx,h11]
theorem SlR.wd {α:Type} [Rp α]{P P':Nat->Prop}{k:Nat}{h h':H}{l:List α}{v:AV}(r:SlR P k h l v)(hf:∀i,P i->P' i/\h'.get i=h.get i):SlR P' k h' l v:=by obtain ⟨w,hw,q⟩:=Rp.mono (k':=k) (P':=P') (h':=h') (show Rp.rp P k h l [v] from ⟨v,rfl,r⟩) hf (Nat.le_refl _);injection hw with hw;subst hw;exact q
theorem Dp (g:G){b:Nat}(hb:b<=g.nx):Own (g.new (.cells 1 [] 0 false false)) b (.hsl g.nx 0 0 0 none) 1 []:=.inr ⟨g.nx,0,false,hb,by simp,rfl,by simp[aR]⟩
def DvJ (v w q:AV)(n x y N:Nat)(i:Nat):PT:=λt df g=>df=[]/\St t [(0,v),(1,w),(6,.int .i64 (n:Int)),(7,q)]/\∃rest L,tat t 8=rest/\Own g 0 q 1 (L.map ci)/\S.qI x y N i L/\SlR (λj=>j<g.nx/\vid q≠some j) 0 g.h (S.dg (x / 10000 ^ i % y)) rest
theorem Ni {d k i n N:Nat}{v w uq rest:AV}{x y R:Nat}{P:Nat->Prop}{Q:QT}{t:T}{g:G}{L:List Int}(hd:0<d)(hw:∀h,SlR NoP k h (S.dg y) w)(hy0:0<y)(hy:y*10000<1000000000000000000000000000000000000000000000000)(hR:R<10000*y)
  (hr:SlR P 0 g.h (S.dg R) rest) (hP:∀j,P j->j<g.nx/\vid uq≠some j) (hu:Own g 0 uq 1 (L.map ci)) (hq:S.qI x y N (i+1) L) (hi:i<N) (hRx:R=10000*(x / 10000 ^ (i+1) % y)+x / 10000 ^ i % 10000)
  (ht:St t ((9,.int .i64 (i:Int))::Dv v w uq rest n)) (h13:tat t 13=.int .i64 ((R / y:Nat):Int))
  (fin:∀t g,DvJ v w uq n x y N i t [] g->tat t 9=.int .i64 (i:Int)->Q .norm t [] g) :
  wp C0 d none gK Q t [] g:=by
 obtain ⟨h9,h0,h1,h6,h7,h8,-⟩:=ht;have hlL:i<L.length:=by rw[hq.len];exact hi
 have hq2:=LQ (q:=R / y) hq hy0 hi (by rw[hRx]);have ql:R / y<10000:=Nat.div_lt_of_lt_mul (by rw[Nat.mul_comm];exact hR);have hmul:y*(R / y)<=R:=Nat.mul_div_le R y;have hmod:R - y*(R / y)=x / 10000 ^ i % y:=by rw[EL,<-hRx];have:=Nat.div_add_mod R y;omega
 obtain ⟨p,hp,-,-⟩:=ae hlL;have q1:i<(L.map ci).length:=by simpa using hlL
 have q2:(L.map ci)[i]?=some (ci p):=by rw[List.getElem?_map,hp];rfl
 have ur:=hu.rows;simp only[sz,simprocAttr,gK,h7,h9,h13,ur,q1];refine cN (v:=uq) (sz:=1) (n:=1) (i:=i) (off:=0) (x:=.int .i64 ((R / y:Nat):Int)) (row':=ci ((R / y:Nat):Int)) hu q2 rfl rfl rfl λg4 hu4 n4 f4=>?_;rw[o_] at hu4;simp only[sz,simprocAttr,h1,h8,h13];refine yj (l:=[((R / y:Nat):Int)]) (Dq g4 _) (by simp) λv5 hv5=>?_;rw[yi (n:=R / y) (by intro z hz;rw[List.mem_singleton.1 hz];exact ⟨Int.natCast_nonneg _,Int.ofNat_lt.2 ql⟩) (by simp[S.OI]) (by omega)] at hv5;simp only[sz,simprocAttr];refine a_ (A0 (d:=d) (x:=y) (y:=R / y) hd (hw _) hv5 (by omega) (Lg (by omega)) (by have:=jo (R / y);omega) (oO _ (by omega)) (by omega)) λr6 hr6=>?_;simp only[sz,simprocAttr];have hr7:SlR (λ_=>True) 0 (g4.new (.cells 1 [[.int .i64 ((R / y:Nat):Int)]] 0 false false)).h (S.dg R) rest:=hr.wd λj hj=>⟨trivial,by
  obtain ⟨a,b⟩:=hP j hj;rw[G.new_h,aq _ _ _ (by omega),f4 j b]⟩
 refine a_ (HL (d:=d) (x:=R) (y:=y*(R / y)) hd hr7 (hr6.sl _) (by omega) hmul) λr8 hr8=>?_;rw[hmod] at hr8;simp only[sz,simprocAttr];refine fin _ _ ⟨rfl,?_,r8,_,?_,hu4.step (Fr.new _ _),hq2,(hr8.sl .nil).wd λ_ h=>h.elim⟩ ?_
 ·simp[St,sx,h0,h1,h6,h7]
 ·simp[sx]
 ·simp[sx,h9]
theorem tM {d k k2:Nat}{g:G}{P P2:Nat->Prop}{v w:AV}{x y:Nat}(hd:0<d)(hv:SlR P k g.h (S.dg x) v)(hw:SlR P2 k2 g.h (S.dg y) w)(hx:x<1000000000000000000000000000000000000000000000000)(hy0:0<y)(hy:y*10000<1000000000000000000000000000000000000000000000000) :
  ∃r,am C0 d N.OS [v,w] g=.val r/\Bc (One (S.dg (x / y))) (One (S.dg (x % y))) NoP 0 .nil r:=by
 obtain ⟨v',e1,r1⟩:=be hv d;obtain ⟨w',e2,r2⟩:=be hw d;rw[ub];have hlx:=jo x;have hly:=jo y;have hyl:=FX (n:=y) (by omega) (by omega);refine aX wY (xs:=[v',w']) (by simp only[aE,e1,e2]) (by simp[gI]) (jh (m:=1) (aS _) (aS _) (by decide) (by decide)) (by decide) hd ?_;have n1:=λg=>(r1 .nil).len g;have n2:=λg=>(r2 .nil).len g;have ra:∀h',ah h' 1 v'=some ((S.dg x).map ci):=λh'=>(r1 h').ints;obtain ⟨n,hn⟩:∃n,n+1=(S.dg y).length:=⟨(S.dg y).length - 1,by omega⟩;have w1:IntKind.wrap .i64 (((S.dg y).length:Int) - 1)=(n:Int):=by rw[ay (by omega) (by omega)];omega
 have ybx:10000 ^ n<=y:=by have:=Mv (n:=y) (by omega) (by omega);rw[<-hn] at this;exact this
 by_cases hle:(S.dg x).length<=n
 ·have hleI:((S.dg x).length:Int)<=(n:Int):=by omega
  have hlt:x<y:=Nat.lt_of_lt_of_le (Nat.lt_of_lt_of_le (uk hx) (Nat.pow_le_pow_right (by decide) hle)) ybx;simp only[sz,simprocAttr,gI,n1,n2,w1,hleI];refine aU (b:=0) (new:=(S.dg x).map ci) (Dp _ (Nat.zero_le _)) (ra _) (Nat.zero_le _) (by simp[aP];omega) λv2 g2 hv2 n2 f2 _ l2=>?_;simp only[sz,simprocAttr];refine ⟨λ_=>True,.nils,v2,rfl,?_,?_⟩
  ·rw[Nat.div_eq_of_lt hlt];exact ⟨.nils,rfl,by show 0<9223372036854775808;decide,rfl⟩
  ·rw[Nat.mod_eq_of_lt hlt];exact Own.ints (by simpa using hv2) (by omega)
 ·have hleI:¬((S.dg x).length:Int)<=(n:Int):=by omega
  obtain ⟨N,hN⟩:∃N,N+n=(S.dg x).length:=⟨(S.dg x).length - n,by omega⟩;have w2:IntKind.wrap .i64 (((S.dg x).length:Int) - (n:Int))=(N:Int):=by rw[ay (by omega) (by omega)];omega
  obtain ⟨w3,hs,hw3⟩:=Mb (c:=N) (r1 .nil) (by intro e;rw[e] at hN hle;simp at hN hle) (by omega);rw[FV N x hx] at hw3;have hAn:x / 10000 ^ N<10000 ^ n:=lF (by rw[hN];exact uk hx);have hAy:x / 10000 ^ N<y:=Nat.lt_of_lt_of_le hAn ybx;simp only[sz,simprocAttr,gI,n1,n2,w1,hleI,w2];refine rR (b:=0) (n:=N) (by simp[aP];omega) (by simp[aP];omega) (Nat.zero_le _) λuq g1 hu hn1 hf1 hvid=>?_;have hu:Own g1 0 uq 1 ((List.replicate N (0:Int)).map ci):=by simpa [ci] using hu
  simp only[sz,simprocAttr,n1,w2,List.head?_nil,List.head?_cons,hs];have hl3:=jo (x / 10000 ^ N);refine aU (b:=g1.nx) (new:=(S.dg (x / 10000 ^ N)).map ci) (Dp _ (Nat.le_refl _)) (hw3.tree (Nat.le_refl _)).ints (by simp) (by simp[aP];omega) λv4 g4 hv4 n4 f4 _ l4=>?_;have hv4:Own g4 g1.nx v4 1 ((S.dg (x / 10000 ^ N)).map ci):=by simpa using hv4
  have hf14:Fr g1 g4:=⟨by simp at n4;omega,λi hi=>by rw[f4 i (by simp;omega) (by intro e;injection e with e;omega),G.new_h,aq _ _ _ (by omega)]⟩;have hu4:=hu.step hf14;have hl4:cV .slice uq g4=.val (.int .i64 (N:Int)):=by rw[cL hu4.rows];simp
  have w4:IntKind.wrap .i64 ((N:Int) - 1)=(N:Int) - 1:=ay (by omega) (by omega);simp only[sz,simprocAttr,hl4,w4,lX,lZ];refine rH (m:=N) (by omega) (DvJ v' w' uq n x y N) ⟨rfl,by simp[St,sx],v4,_,by simp[sx],hu4,JW hAy,?_⟩ (by simp[sx]) (by decide) (by rintro j t df g v s (rfl | rfl | rfl | rfl | rfl)<;>simp[DvJ,St,sx]) ?_ ?_
  ·rw[Nat.mod_eq_of_lt hAy];exact hv4.sl (by omega) (All2.of_map (λa=>aL.2 rfl) _) λi hi=>⟨(hv4.lt hi).2,λe=>by have:=(hu.lt e).2;have:=(hv4.lt hi).1;omega⟩
  ·rintro i t df g hi ⟨rfl,⟨h0,h1,h6,h7,-⟩,rest,L,h8,hu,hq,hr⟩ h9;have hil:i<(S.dg x).length:=by omega
   obtain ⟨p,hp,-,-⟩:=ae hil;have q1:i<((S.dg x).map ci).length:=by simpa using hil
   have q2:((S.dg x).map ci)[i]?=some (ci p):=by rw[List.getElem?_map,hp];rfl
   have gp:=ta i x hx;rw[hp,Option.getD_some] at gp;have ha:=Nat.mod_lt (x / 10000 ^ i) (show 0<10000 by decide);have hry:=Nat.mod_lt (x / 10000 ^ (i+1)) hy0;obtain ⟨R,hR⟩:∃R,R=10000*(x / 10000 ^ (i+1) % y)+x / 10000 ^ i % 10000:=⟨_,rfl⟩;have hRy:R<10000*y:=by rw[hR];exact Iy hry ha
   have hlr:=jo (x / 10000 ^ (i+1) % y);have hcut:S.Pv (p::S.dg (x / 10000 ^ (i+1) % y))=S.dg R:=by
    refine yi (λz hz=>?_) ?_ (by omega)
    ·rcases List.mem_cons.1 hz with rfl | hz
     ·omega
     ·exact tb _ (by omega) z hz
    ·rw[S.OI,oO _ (by omega),gp,hR];omega
   have w5:IntKind.wrap .i64 ((n:Int)+1)=(n:Int)+1:=ay (by omega) (by omega);simp only[sz,simprocAttr,h0,h8,h9,ra,q1,q2,ci];refine aU (b:=g.nx) (rows:=[p].map ci) (new:=(S.dg (x / 10000 ^ (i+1) % y)).map ci) (LL (Nat.le_refl _) _) (hr.far8 λj hj=>by rw[G.new_h,aq _ _ _ (by omega)]).ints (by simp) (by simp[aP];omega) λv2 g2 hv2 n2 f2 _ l2=>?_;have hv2:Own g2 g.nx v2 1 ((p::S.dg (x / 10000 ^ (i+1) % y)).map ci):=by simpa using hv2
   have hf2:Fr g g2:=⟨by simp at n2;omega,λi hi=>by rw[f2 i (by simp;omega) (by intro e;injection e with e;omega),G.new_h,aq _ _ _ (by omega)]⟩;simp only[sz,simprocAttr];refine yj hv2 (by simp;omega) λv3 hv3=>?_;rw[hcut] at hv3;simp only[sz,simprocAttr,h6,w5];have hP3:∀j,vid v2=some j->j<g2.nx/\vid uq≠some j:=λj hj=>⟨(hv2.lt hj).2,λe=>by have:=(hu.lt e).2;have:=(hv2.lt hj).1;omega⟩;obtain ⟨m,hm⟩:∃m,m=n - 1:=⟨_,rfl⟩;refine Lk (i:=i) (n:=n) (v:=v') (uq:=uq) (rest:=v3) (m:=m) (R:=R) (k:=max k2 d) r2 hm hn (by omega) (by omega) hRy hv3 (by simp[St,Dv,sx,h0,h1,h6,h7,h9]) (by simp[sx]) (by simp[sx]) (by simp[sx]) ?_;rintro t ⟨h9,h0,h1,h6,h7,h8,-⟩ h10 h11;have hM:0<10000 ^ m:=Nat.pow_pos (by decide);have ht0:0<y / 10000 ^ m:=Nat.div_pos (Nat.le_trans (Nat.pow_le_pow_right (by decide) (by omega)) ybx) hM;have htM:10000 ^ m=1\/10000<=y / 10000 ^ m:=by
    by_cases h:m=0
    ·left;rw[h]
    ·right;refine (Nat.le_div_iff_mul_le hM).2 (Nat.le_trans (Nat.le_of_eq ?_) ybx);rw[show n=m+1 by omega,Nat.pow_succ,Nat.mul_comm]
   have d1:=Lh (R:=R) (b:=y) hy0 hM;have d2:=Ix (R:=R) hM ht0;have d3:=Li hM hRy ht0 htM;have t1:y / 10000 ^ m<10000 ^ 2:=lF (Nat.lt_of_lt_of_le (uk (n:=y) (by omega)) (Nat.pow_le_pow_right (by decide) (by omega)));have t2:R / 10000 ^ m<10000 ^ 3:=lF (by
    have:=uk (n:=y) (by omega);rw[<-hn] at this;refine Nat.lt_of_lt_of_le (m:=10000 ^ (n+2)) ?_ (Nat.pow_le_pow_right (by decide) (by omega));rw[Nat.pow_succ];omega)
   generalize y / 10000 ^ m=U at *;generalize R / 10000 ^ m=F at *;have p2:10000 ^ 2=100000000:=rfl;have p3:10000 ^ 3=1000000000000:=rfl;rw[p2] at t1;rw[p3] at t2;have w6:IntKind.wrap .i64 ((U:Int)+1)=((U+1:Nat):Int):=by rw[ay (by omega) (by omega)];omega
   have b1:=rV (x:=F) (y:=U+1) (by omega) (by omega);have b2:=rV (x:=F) (y:=U) (by omega) ht0;simp only[sz,simprocAttr,lY,h10,h11,w6,b1,b2];refine Lj (d:=d+1) (i:=i) (n:=n) (v:=v') (w:=w') (uq:=uq) (rest:=v3) (y:=y) (R:=R) (k:=max k2 d) (lo:=F / (U+1)) (hi:=F / U) (Nat.succ_pos d) r2 hy0 hy (by omega) hv3 (λj hj=>(hP3 j hj).1) (by simp[St,Dv,sx,h0,h1,h6,h7,h8,h9]) (by simp[sx]) (by simp[sx]) d1 d2 d3 ?_;rintro t g3 hf3 ht3 h13;simp only[sx,↓reduceIte];refine Ni (d:=d+1) (k:=max k2 d) (P:=λj=>vid v2=some j) (N:=N) (x:=x) (Nat.succ_pos d) r2 hy0 hy hRy (hv3.far8 λj hj=>hf3.2 j (hP3 j hj).1) (λj hj=>⟨Nat.lt_of_lt_of_le (hP3 j hj).1 hf3.1,(hP3 j hj).2⟩) (hu.step (hf2.trans hf3)) hq hi hR ht3 h13 ?_;rintro t g hJ h9;exact ⟨hJ,h9⟩
  ·rintro t df g ⟨rfl,⟨h0,h1,h6,h7,-⟩,rest,L,h8,hu,hq,hr⟩;have hLl:=hq.len;simp only[sz,simprocAttr,l8,h7];refine yj hu (by omega) λv9 hv9=>?_;rw[Nw hq hx] at hv9;rw[Nat.pow_zero,Nat.div_one] at hr;simp only[sz,simprocAttr,h8];exact ⟨λ_=>True,v9,rest,rfl,⟨v9,rfl,hv9.wd λ_ _=>⟨trivial,rfl⟩⟩,⟨rest,rfl,hr.wd λ_ _=>⟨trivial,rfl⟩⟩⟩
theorem L1 {d:Nat}{g:G}{v w:AV}{x y:Nat}(hd:0<d)(hv:IT 0 (S.dg x) v)(hw:IT 0 (S.dg y) w)(hx:x*10000<1000000000000000000000000000000000000000000000000)(hy:y*10000<1000000000000000000000000000000000000000000000000) :
  ∃r,am C0 d N.Pl [v,w] g=.val r/\IT 0 (S.dg (Nat.gcd x y)) r:=by
 rw[xX];refine aX Bq (xs:=[v,w]) (by simp only[aE,iP d (hv.sl g.h),iP d (hw.sl g.h)]) (by simp[qC]) (aS _) (by decide) hd ?_;simp only[sz,simprocAttr,qC];refine eW (λn t df g=>df=[]/\∃(a b:Nat) (va vb:AV),n=b/\a*10000<1000000000000000000000000000000000000000000000000/\b*10000<1000000000000000000000000000000000000000000000000/\Nat.gcd a b=Nat.gcd x y/\tat t 0=va/\tat t 1=vb/\IT 0 (S.dg a) va/\IT 0 (S.dg b) vb) y
  ⟨rfl,x,y,v,w,rfl,hx,hy,rfl,by simp[sx],by simp[sx],hv,hw⟩ ?_
 rintro b t df g ⟨rfl,a,_,va,vb,rfl,ha,hb,hg,h0,h1,hva,hvb⟩;have hl:=hvb.len
 by_cases hb0:b=0
 ·subst hb0;have q0:¬((0:Int)<((S.dg 0).length:Int)):=by rw[lT];simp
  rw[Nat.gcd_zero_right] at hg;subst hg;simp only[sz,simprocAttr,kG,qD,h0,h1,hl,q0];exact ⟨λ_=>True,va,rfl,(hva.sl g.h).wd λ_ h=>h.elim⟩
 ·have q0:(0:Int)<((S.dg b).length:Int):=by have:=FX (n:=b) hb0 (by omega);omega
  simp only[sz,simprocAttr,kG,h0,h1,hl,q0];refine a_ (tM (d:=d+1) (Nat.succ_pos d) (hva.sl g.h) (hvb.sl g.h) (by omega) (Nat.pos_of_ne_zero hb0) hb) ?_;rintro _ ⟨r1,r2,rfl,h3,h4⟩;have hlt:=Nat.mod_lt a (Nat.pos_of_ne_zero hb0);simp only[sz,simprocAttr,h1];refine ⟨a % b,hlt,b,a % b,vb,r2,rfl,hb,Nat.lt_of_le_of_lt (Nat.mul_le_mul_right _ (Nat.le_of_lt hlt)) hb,?_,?_,?_,hvb,h4⟩
  ·rw[<-hg,Nat.gcd_comm a b,Nat.gcd_comm b (a % b),<-Nat.gcd_rec]
  ·simp[sx]
  ·simp[sx]
theorem A2 {d k:Nat}{g:G}{P:Nat->Prop}{v:AV}{x:Nat}(hd:0<d)(hv:SlR P k g.h (S.dg x) v)(hx:x<=4611686018427387903) :
  am C0 d N.OI [v] g=.val (.tup [.int .i64 (x:Int),.bool true]):=by
 have key:∃r,am C0 d N.OI [v] g=.val r/\Bc (One (x:Int)) (One true) NoP 0 .nil r:=by
  obtain ⟨v',e1,r1⟩:=be hv d;rw[vo];refine aX yq (xs:=[v']) (by simp only[aE,e1]) (by simp[mM]) (jh (m:=1) (aS _) (aS _) (by decide) (by decide)) (by decide) hd ?_;have n1:=λg=>(r1 .nil).len g;have ra:∀h',ah h' 1 v'=some ((S.dg x).map ci):=λh'=>(r1 h').ints;have hlx:=jo x;have w1:IntKind.wrap .i64 (((S.dg x).length:Int) - 1)=((S.dg x).length:Int) - 1:=ay (by omega) (by omega);simp only[sz,simprocAttr,mM];obtain ⟨M,hM⟩:∃M:Nat,M=4611686018427387903:=⟨_,rfl⟩;have hMI:(M:Int)=4611686018427387903:=by omega
  have hdg:=λg=>vF (d:=d+1) (g:=g) (n:=M) (Nat.succ_pos d) (by omega);rw[hMI] at hdg;refine a_ (hdg _) λr hr=>?_;have hc:∀g,am C0 (d+1) N.OP [v',r] g=.val (.int .i64 (S.Ph x M)):=λg=>yf (Nat.succ_pos d) (r1 g.h) (hr.sl g.h) (by omega) (by omega);have hc2:¬(0<S.Ph x M):=by have:=Iq (a:=x) (b:=M) (by omega);omega
  simp only[sz,simprocAttr,hc,hc2,n1,w1,nG];refine rH (m:=(S.dg x).length) (by omega) (λj t df g=>df=[]/\St t [(0,v')]/\tat t 4=.int .i64 ((x / 10000 ^ j:Nat):Int)) ⟨rfl,by simp[St,sx],?_⟩ (by simp[sx]) (by decide) (by rintro j t df g v s (rfl | rfl | rfl | rfl | rfl)<;>simp[St,sx]) ?_ ?_
  ·rw[Nat.div_eq_of_lt (uk (by omega))];simp[sx]
  ·rintro j t df g hj ⟨rfl,⟨h0,-⟩,h4⟩ h5;obtain ⟨p,hp,-,-⟩:=ae hj;have ep:=ta j x (by omega);rw[hp,Option.getD_some] at ep;have q1:j<((S.dg x).map ci).length:=by simpa using hj
   have q2:((S.dg x).map ci)[j]?=some (ci p):=by rw[List.getElem?_map,hp];rfl
   have hs:=vE x j;have hl:=Nat.div_le_self x (10000 ^ j);generalize x / 10000 ^ (j+1)=F at *;generalize x / 10000 ^ j % 10000=a at *;subst ep;have w2:IntKind.wrap .i64 (10000*(F:Int))=((10000*F:Nat):Int):=by rw[ay (by omega) (by omega)];omega
   have w3:IntKind.wrap .i64 (((10000*F:Nat):Int)+(a:Int))=((x / 10000 ^ j:Nat):Int):=by rw[hs,ay (by omega) (by omega)];omega
   simp only[sz,simprocAttr,h0,h4,h5,ra,q1,q2,ci,w2,w3];simp[St,sx,h0]
  ·rintro t df g ⟨rfl,⟨h0,-⟩,h4⟩;rw[Nat.pow_zero,Nat.div_one] at h4;simp only[sz,simprocAttr,nH,h4];exact ⟨λ_=>True,_,_,rfl,aL.2 rfl,jT.2 rfl⟩
 obtain ⟨z,h1,a,b,rfl,h2,h3⟩:=key;have h2:=aL.1 h2;have h3:=jT.1 h3;injection h2 with h2;injection h3 with h3;rw[h1,h2,h3]
theorem AF {x y:Nat}(hy:0<y):0<Nat.gcd x y/\Nat.gcd x y<=y/\x / Nat.gcd x y<=x/\y / Nat.gcd x y<=y :=
 ⟨Nat.gcd_pos_of_pos_right x hy,Nat.le_of_dvd hy (Nat.gcd_dvd_right x y),Nat.div_le_self _ _,Nat.div_le_self _ _⟩
theorem J6 {d:Nat}{g:G}{v w:AV}{x y:Nat}(hd:0<d)(hv:IT 0 (S.dg x) v)(hw:IT 0 (S.dg y) w)(hx:x<=4611686018427387903)(hy0:0<y)(hy:y<=4611686018427387903) :
  am C0 d N.OT [.bool false,v,w] g=.val (.tup [.agg [.int .i64 (S.O5 x y).1,.int .i64 (S.O5 x y).2],.bool true]):=by
 have key:∃r,am C0 d N.OT [.bool false,v,w] g=.val r/\Bc (Agg (S.O5 x y)) (One true) NoP 0 .nil r:=by obtain ⟨g0,g1,g2,g3⟩:=AF (x:=x) hy0;rw[wR];refine aX zO (xs:=[.bool false,v,w]) (by simp only[aE,Ic 0,iP d (hv.sl g.h),iP d (hw.sl g.h)]) (by simp[oV]) (jh (m:=2) (ch _) (aS _) (by decide) (by decide)) (by decide) hd ?_;simp only[sz,simprocAttr,oV,qE];refine a_ (L1 (Nat.succ_pos d) hv hw (by omega) (by omega)) λr hr=>?_;simp only[sz,simprocAttr];refine a_ (tM (Nat.succ_pos d) (hv.sl _) (hr.sl _) (by omega) g0 (by omega)) ?_;rintro _ ⟨r1,r2,rfl,⟨_,h3,h4⟩,-⟩;injection h3 with h3;subst h3;simp only[sz,simprocAttr];refine a_ (tM (Nat.succ_pos d) (hw.sl _) (hr.sl _) (by omega) g0 (by omega)) ?_;rintro _ ⟨r3,r4,rfl,⟨_,h5,h6⟩,-⟩;injection h5 with h5;subst h5;have e1:∀g,am C0 (d+1) N.OI [r1] g=.val (.tup [.int .i64 ((x / Nat.gcd x y:Nat):Int),.bool true]):=λg=>A2 (Nat.succ_pos d) (h4.tree (h':=g.h) (Nat.le_refl _)) (by omega);have e2:∀g,am C0 (d+1) N.OI [r3] g=.val (.tup [.int .i64 ((y / Nat.gcd x y:Nat):Int),.bool true]):=λg=>A2 (Nat.succ_pos d) (h6.tree (h':=g.h) (Nat.le_refl _)) (by omega);simp only[sz,simprocAttr,e1,e2,pC];exact ⟨λ_=>True,_,_,rfl,wk.2 rfl,jT.2 rfl⟩
 obtain ⟨z,h1,a,b,rfl,h2,h3⟩:=key;have h3:=jT.1 h3;injection h3 with h3;rw[h1,wk.1 h2,h3]
theorem Ny {d:Nat}{g:G}{x y:Nat}(hd:0<d)(hx:x<=4611686018427387903)(hy0:0<y)(hy:y<=4611686018427387903) :
  am C0 d N.O5 [.int .i64 (x:Int),.int .i64 (y:Int)] g=.val (.agg [.int .i64 (S.O5 x y).1,.int .i64 (S.O5 x y).2]):=by
 have mk:∀(d:Nat) (g:G),0<d->am C0 d N.O4 [.int .i64 (x:Int),.int .i64 (y:Int)] g=.val (.tup [.agg [.int .i64 (S.O5 x y).1,.int .i64 (S.O5 x y).2],.bool true]):=λd g hd=>by
  have key:∃r,am C0 d N.O4 [.int .i64 (x:Int),.int .i64 (y:Int)] g=.val r/\Bc (Agg (S.O5 x y)) (One true) NoP 0 .nil r:=by
   rw[wQ];refine aX zN (xs:=[.int .i64 (x:Int),.int .i64 (y:Int)]) (by simp only[aE,bD 0]) (by simp[oU]) (jh (m:=2) (ch _) (aS _) (by decide) (by decide)) (by decide) hd ?_;have q1:¬((x:Int)<0):=by omega
   have q2:¬((y:Int)<0):=by omega
   have qe:CO true EqKind.bool (AV.bool false) (AV.bool false)=.val (.bool false):=rfl;simp only[sz,simprocAttr,oU,qz,q1,q2,qe];refine a_ (vF (Nat.succ_pos d) (by omega)) λr hr=>?_;simp only[sz,simprocAttr];refine a_ (vF (Nat.succ_pos d) (by omega)) λr2 hr2=>?_;have e1:∀g,am C0 (d+1) N.OT [.bool false,r,r2] g=.val (.tup [.agg [.int .i64 (S.O5 x y).1,.int .i64 (S.O5 x y).2],.bool true]):=λg=>J6 (Nat.succ_pos d) hr hr2 hx hy0 hy;simp only[sz,simprocAttr,e1];exact ⟨λ_=>True,_,_,rfl,wk.2 rfl,jT.2 rfl⟩
  obtain ⟨z,h1,a,b,rfl,h2,h3⟩:=key;have h3:=jT.1 h3;injection h3 with h3;rw[h1,wk.1 h2,h3]
 have key:∃r,am C0 d N.O5 [.int .i64 (x:Int),.int .i64 (y:Int)] g=.val r/\Agg (S.O5 x y) NoP 0 .nil r:=by rw[zD];refine aX CK (xs:=[.int .i64 (x:Int),.int .i64 (y:Int)]) (by simp only[aE,bD 0]) (by simp[tu]) (ch _) (by decide) hd ?_;have e1:=λg=>mk (d+1) g (Nat.succ_pos d);simp only[sz,simprocAttr,tu,ux,e1];exact ⟨λ_=>True,wk.2 rfl⟩
 obtain ⟨z,h1,h2⟩:=key;rw[h1,wk.1 h2]
abbrev P3:Nat->Prop:=λi=>3<=i
structure HS (m:Causal) (c1 c2 la lb lc:AV) (p q:Nat) (gb g:G):Prop where
 fr:Fr gb g
 mp:g.h.get p=.cells 3 [[.int .i64 m.grain,c1,c2]] 0 false false
 ml:g.h.get q=.cells 3 [[la,lb,lc]] 0 false false
 pn:p<gb.nx
 q0:gb.nx<=q
 qn:q<g.nx
section
variable {m:Causal}{c1 c2 la lb lc w c28 vi c90 vj:AV}{A B Z:List Int}{p q:Nat}
end
end
end Hx
end
end
