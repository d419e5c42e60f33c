/- A part of the proof: an interpreter over abstract values, shown right against the model, and what the functions of the chapter compute on it. -/
import Derived.Test.YtkbieohddgjioaaHx8
set_option linter.unusedVariables false
set_option linter.unusedSimpArgs false
set_option linter.unnecessarySimpa false
section
section
namespace Hx
open Go
noncomputable section
theorem aq {α:Type}{l:List α}{j:Nat}(h:j<l.length):∃x,l[j]?=some x/\l.take (j+1)=l.take j++[x]/\x∈l :=
 ⟨l[j],List.getElem?_eq_getElem h,by rw[List.take_add_one,List.getElem?_eq_getElem h];rfl,List.getElem_mem h⟩
def S.a_ (l:List Int):Int:=l.foldl (λs x=>IntKind.wrap .i64 (s*x)) 1
theorem Hu {d:Nat}{g:G}{v:AV}(hd:0<d)(hv:ud g.h v)(hl:(lB g.h v).length<9223372036854775808) :
  ay C0 d N.am [v] g=.val (.int .i64 (S.a_ (lB g.h v))):=by
 obtain ⟨v',e,hr,hlen⟩:=D1 hv hl d;generalize lB g.h v=l at hr hlen hl ⊢;rw[sR];refine o4 vg (xs:=[v']) (by simp only[aJ,e]) (by simp[mC]) hd ?_;simp only[sz,simprocAttr,mC];refine pt hl hlen (λj t df g=>df=[]/\tat t 3=.int .i64 (S.a_ (l.take j))) ⟨rfl,by simp[sx,S.a_]⟩ (by simp[sx]) (by simp[sx]) (by decide)
  (by rintro j t df g v s (rfl | rfl | rfl | rfl | rfl | rfl | rfl)<;>simp[sx]) ?_ ?_
 ·rintro j t df g hj ⟨rfl,h3⟩ h4 h0;obtain ⟨x,hx,htk,hm⟩:=aq hj;simp only[sz,simprocAttr,hr,h0,h3,h4,hx,hj,List.length_map,List.getElem?_map,Option.map_some,ci,htk,S.a_,List.foldl_append,List.foldl_cons,List.foldl_nil]
 ·rintro t df g ⟨rfl,h3⟩ -;rw[List.take_length] at h3;simp only[sz,simprocAttr,m9,h3]
def S.aW (l:List Int)(n:Int)(i:Nat):Bool:=decide (0<=l[i]?.getD 0)&&decide (l[i]?.getD 0<n)&&(i == 0 || decide (l[i - 1]?.getD 0<l[i]?.getD 0))
def S.aQ (l:List Int)(n:Int):Bool:=(List.range l.length).all (S.aW l n)
def S.ap (n:Nat):Nat:=1*2 ^ n % 18446744073709551616
def S.ae (l:List Int):Nat:=l.foldl (λs x=>s ||| S.ap x.toNat) 0
theorem iH (n:Nat):S.ap n<18446744073709551616:=Nat.mod_lt _ (by decide)
theorem su {α:Type}(f:α->Nat)(hf:∀a,f a<18446744073709551616):∀(l:List α) (s:Nat),s<18446744073709551616->l.foldl (λs x=>s ||| f x) s<18446744073709551616
 | [],_,h=>h
 | a::l,s,h=>su f hf l _ (B_ h (hf a))
theorem dL (l:List Int):S.ae l<18446744073709551616:=su _ (λa=>iH _) l 0 (by decide)
theorem pc (l:List Int)(x:Int):S.ae (l++[x])=S.ae l ||| S.ap x.toNat:=by simp[S.ae]
theorem dM (k':IntKind)(n:Nat):bD .shl (.int .u64 1) (.int k' (n:Int))=.val (.int .u64 (S.ap n:Int)):=Gx k' 1 n
def S.aZ (s v:Nat):Bool:=s / 2 ^ v &&& 1 == 1
theorem BI {d:Nat}{g:G}{s v:Nat}(hd:0<d)(hs:s<18446744073709551616)(hv:v<9223372036854775808) :
  ay C0 d N.af [.int .u64 (s:Int),.int .i64 (v:Int)] g=.val (.bool (S.aZ s v)):=by
 rw[uX];refine e6 yI (xs:=[.int .u64 (s:Int),.int .i64 (v:Int)]) (by simp only[aJ,gc 0]) (by simp[p_]) hd ?_;have h1:s / 2 ^ v<18446744073709551616:=Nat.lt_of_le_of_lt (Nat.div_le_self _ _) hs;have h2:bD .and (.int .u64 ((s / 2 ^ v:Nat):Int)) (.int .u64 1)=.val (.int .u64 ((s / 2 ^ v &&& 1:Nat):Int)):=te (s / 2 ^ v) 1 h1 (by decide);simp only[sz,simprocAttr,p_,mU (show (0:Int)<=(v:Int) by omega) (by omega),tf _ _ _ hs,h2,S.aZ];congr 1;generalize s / 2 ^ v &&& 1=z;rw[Bool.eq_iff_iff,decide_eq_true_iff,beq_iff_eq];omega
def S.aG (p:List Nat)(s:Nat)(j:Nat):Nat:=(List.range j).foldl (λs v=>if S.aZ s v then s ||| p[v]?.getD 0 else s) s
def S.up (p:List Nat)(s:Nat)(j:Nat):Nat:=(List.range j).foldl (λs _=>S.aG p s p.length) s
theorem zS {p:List Nat}(hp:∀x∈p,x<18446744073709551616){s:Nat}(hs:s<18446744073709551616):∀j,S.aG p s j<18446744073709551616:=by
 intro j
 induction j with
 | zero=>exact hs
 | succ j ih =>
  unfold S.aG at ih ⊢;rw[List.range_succ,List.foldl_append];simp only[List.foldl_cons,List.foldl_nil]
  split
  ·refine B_ ih ?_;cases h:p[j]? with
   | none=>decide
   | some x=>exact hp x (List.mem_of_getElem? h)
  ·exact ih
theorem fP (p:List Nat)(s j:Nat):S.aG p s (j+1)=if S.aZ (S.aG p s j) j then S.aG p s j ||| p[j]?.getD 0 else S.aG p s j:=by unfold S.aG;rw[List.range_succ,List.foldl_append];rfl
theorem Ib {p:List Nat}(hp:∀x∈p,x<18446744073709551616){s:Nat}(hs:s<18446744073709551616):∀j,S.up p s j<18446744073709551616:=by
 intro j
 induction j with
 | zero=>exact hs
 | succ j ih =>
  unfold S.up at ih ⊢;rw[List.range_succ,List.foldl_append];exact zS hp ih _
theorem kU (p:List Nat)(s j:Nat):S.up p s (j+1)=S.aG p (S.up p s j) p.length:=by unfold S.up;rw[List.range_succ,List.foldl_append];rfl
theorem Jq {d k:Nat}{g:G}{P:Nat->Prop}{v:AV}{p:List Nat}{s:Nat}(hd:0<d)(hv:SlR P k g.h p v)(hs:s<18446744073709551616) :
  ay C0 d N.aW [v,.int .u64 (s:Int)] g=.val (.int .u64 (S.up p s p.length:Int)):=by
 obtain ⟨v',e,r1⟩:=dF hv d;have hp:=mi hv;have hl:=hv.1;rw[uY];refine o4 yJ (xs:=[v',.int .u64 (s:Int)]) (by simp only[aJ,e,gc 0]) (by simp[qa]) hd ?_;simp only[sz,simprocAttr,qa];refine pt hl (r1 .nil).len (λj t df g=>df=[]/\tat t 1=.int .u64 (S.up p s j:Int)) ⟨rfl,by simp[sx,S.up]⟩ (by simp[sx]) (by simp[sx]) (by decide)
  (by rintro j t df g v s (rfl | rfl | rfl | rfl | rfl | rfl | rfl)<;>simp[sx]) ?_ ?_
 ·rintro j t df g hj ⟨rfl,h1⟩ h5 h0;simp only[sz,simprocAttr];have hu:=Ib hp hs j;refine pt hl (r1 .nil).len (λi t df g=>df=[]/\tat t 5=.int .i64 (j:Int)/\tat t 1=.int .u64 (S.aG p (S.up p s j) i:Int)) ⟨rfl,by simp[sx,h5],by simp[sx,S.aG,h1]⟩ (by simp[sx]) (by simp[sx,h0]) (by decide)
   (by rintro j t df g v s (rfl | rfl | rfl | rfl | rfl | rfl | rfl)<;>simp[sx]) ?_ ?_
  ·rintro i t df g hi ⟨rfl,h5,h1⟩ h6 h0;have hr:=zS hp hu i;obtain ⟨x,hx,-,hm⟩:=aq hi;simp only[sz,simprocAttr,h1,h6,BI (Nat.succ_pos d) hr (show i<9223372036854775808 by omega)];refine a9 (λhb=>?_) (λhb=>?_)
   ·simp only[sz,simprocAttr,h0,h1,h5,h6,(r1 g.h).nats,hi,hx,List.length_map,List.getElem?_map,Option.map_some,cu,kW _ _ hr (hp x hm)];rw[fP,hb,hx];rfl
   ·simp only[sx,sy,↓reduceIte,Nat.reduceEqDiff,h0,h1,h5,h6];rw[fP,hb];rfl
  ·rintro t df g ⟨rfl,h5,h1⟩ h0;simp only[sx,sy,↓reduceIte,h0,h5,h1];rw[kU]
 ·rintro t df g ⟨rfl,h1⟩ -;simp only[sz,simprocAttr,pI,h1]
def S.aN (p:List Nat):Bool:=(List.range p.length).all λv=>!S.aZ (S.up p (p[v]?.getD 0) p.length) v
theorem sE {d k:Nat}{g:G}{P:Nat->Prop}{v:AV}{p:List Nat}(hd:0<d)(hv:SlR P k g.h p v) :
  ay C0 d N.aU [v] g=.val (.bool (S.aN p)):=by
 obtain ⟨v',e,r1⟩:=dF hv d;have hp:=mi hv;have hl:=hv.1;rw[pP];refine e6 rK (xs:=[v']) (by simp only[aJ,e]) (by simp[iN]) hd ?_;simp only[sz,simprocAttr,iN];refine pt hl (r1 .nil).len (λj t df g=>df=[]/\(List.range j).all (λv=>!S.aZ (S.up p (p[v]?.getD 0) p.length) v)=true) ⟨rfl,rfl⟩ (by simp[sx]) (by simp[sx]) (by decide)
  (by rintro j t df g v s (rfl | rfl | rfl | rfl | rfl | rfl | rfl)<;>simp[sx]) ?_ ?_
 ·rintro j t df g hj ⟨rfl,hw⟩ h3 h0;obtain ⟨x,hx,-,hm⟩:=aq hj;have hx':=hp x hm;simp only[sz,simprocAttr,h0,h3,(r1 g.h).nats,hj,hx,List.length_map,List.getElem?_map,Option.map_some,cu,Jq (Nat.succ_pos d) (r1 g.h) hx',BI (Nat.succ_pos d) (Ib hp hx' _) (show j<9223372036854775808 by omega)];refine a9 (λhb=>?_) (λhb=>?_)
  ·simp only[sz,simprocAttr];rw[S.aN,mW hj (by rw[hx];simp[hb])]
  ·simp only[sx,sy,↓reduceIte,Nat.reduceEqDiff,h0,h3];rw[nI,hw,hx];simp[hb]
 ·rintro t df g ⟨rfl,hw⟩ h0;simp only[sz,simprocAttr,jB];rw[S.aN,hw]
def S.ah (l:List Int):Int:=l.foldl (·*·) 1
theorem rP (l:List Int)(x:Int):S.ah (l++[x])=S.ah l*x:=by simp[S.ah]
theorem jo {a b:Nat}(h:a<=b):(4:Int) ^ a<=4 ^ b:=by
 obtain ⟨c,rfl⟩:∃c,b=a+c:=⟨b - a,by omega⟩
 induction c with
 | zero=>exact Int.le_refl _
 | succ c ih =>
  have:=ih (by omega);rw[show a+(c+1)=(a+c)+1 from rfl,Int.pow_succ];have h0:(0:Int)<=4 ^ (a+c):=Int.le_of_lt (Int.pow_pos (by decide));omega
theorem rO (a:Int)(l:List Int):S.ah (a::l)=a*S.ah l:=by
 have:∀(l:List Int) (s:Int),l.foldl (·*·) s=s*l.foldl (·*·) 1:=by
  intro l
  induction l with
  | nil=>intro s;simp
  | cons x l ih=>intro s;rw[List.foldl_cons,ih,List.foldl_cons,ih (1*x),Int.one_mul,Int.mul_assoc]
 unfold S.ah;rw[List.foldl_cons,this,Int.one_mul]
theorem fM:∀{l:List Int},(∀x∈l,1<=x/\x<=4)->1<=S.ah l/\S.ah l<=4 ^ l.length
 | [],_=>⟨by decide,by decide⟩
 | a::l,h=>by
  obtain ⟨h1,h2⟩:=fM (l:=l) λx hx=>h x (by simp[hx]);obtain ⟨h3,h4⟩:=h a (by simp);rw[rO,List.length_cons,Int.pow_succ,Int.mul_comm (4 ^ l.length)];constructor
  ·have:=Int.mul_le_mul h3 h1 (by decide) (by omega);simpa using this
  ·exact Int.mul_le_mul h4 h2 (by omega) (by decide)
theorem wR {b:Int}(hb:0<=b):∀{l:List Int},(∀x∈l,0<=x/\x<=b)->0<=l.sum/\l.sum<=b*l.length
 | [],_=>by simp
 | a::l,h=>by
  obtain ⟨h1,h2⟩:=wR hb (l:=l) λx hx=>h x (by simp[hx]);obtain ⟨h3,h4⟩:=h a (by simp);rw[List.sum_cons,List.length_cons];have:b*((l.length+1:Nat):Int)=b*(l.length:Int)+b:=by rw[Int.natCast_add,Int.mul_add];simp
  omega
theorem ro (l:List Int)(x:Int):(l++[x]).sum=l.sum+x:=by simp
def S.bI (m:Causal)(p:Int):Int:=(m.nodes[p.toNat]?.map (·.card)).getD 0
def S.bQ (m:Causal)(r:Int):Int:=(m.roots[r.toNat]?.map λr=>(r.length:Int)).getD 0
def S.bm (a b:Nat):Nat:=a ^^^ (a &&& b)
theorem Ij {n:Nat}(h:n<64):S.ap n=2 ^ n:=by unfold S.ap;rw[Nat.one_mul,Nat.mod_eq_of_lt];exact Nat.pow_lt_pow_right (a:=2) (by decide) h
theorem AO {d k:Nat}{g:G}{P:Nat->Prop}{v:AV}{l:List Int}{n:Int}(hd:0<d)(hv:SlR P k g.h l v) :
  ay C0 d N.aT [v,.int .i64 n] g=.val (.bool (S.aQ l n)):=by
 obtain ⟨v',e,r1⟩:=dF hv d;rw[qy];refine e6 sW (xs:=[v',.int .i64 n]) (by simp only[aJ,gc 0,e]) (by simp[jA]) hd ?_;simp only[sz,simprocAttr,jA];have hl:=hv.1;refine pt hl (r1 .nil).len (λj t df g=>df=[]/\tat t 1=.int .i64 n/\(List.range j).all (S.aW l n)=true)
  ⟨rfl,by simp[sx],rfl⟩ (by simp[sx]) (by simp[sx]) (by decide) (by rintro j t df g v s (rfl | rfl | rfl | rfl | rfl | rfl | rfl)<;>simp[sx]) ?_ ?_
 ·rintro j t df g hj ⟨rfl,h1,hw⟩ h5 h0;obtain ⟨x,hx,htk,hm⟩:=aq hj;have bad:S.aW l n j=false->S.aQ l n=false:=λh=>mW hj h;have rr:=(r1 g.h).ints;simp only[sz,simprocAttr,rr,h0,h5,hx,hj,List.length_map,List.getElem?_map,Option.map_some,ci];refine a9 (λhb=>?_) (λhb=>?_)
  ·simp only[sz,simprocAttr,hb];rw[bad (by simp[S.aW,hx] at *;omega)]
  ·simp only[sz,simprocAttr,rr,hb,h0,h1,h5,hx,hj,List.length_map,List.getElem?_map,Option.map_some,ci];refine a9 (λhc=>?_) (λhc=>?_)
   ·simp only[sz,simprocAttr,hc];rw[bad (by simp[S.aW,hx] at *;omega)]
   ·simp only[sz,simprocAttr,hc,h5];refine a9 (λhd=>?_) (λhd=>?_)
    ·obtain ⟨i,rfl⟩:∃i,j=i+1:=⟨j - 1,by simp at hd;omega⟩;obtain ⟨y,hy,-,-⟩:=aq (l:=l) (j:=i) (by omega);have hi:i<l.length:=by omega
     have e:IntKind.wrap .i64 (((i+1:Nat):Int) - 1)=(i:Int):=by rw[aB (by omega) (by omega)];omega
     simp only[sz,simprocAttr,rr,hd,e,h0,h5,hx,hj,hy,hi,List.length_map,List.getElem?_map,Option.map_some,ci];refine a9 (λhe=>?_) (λhe=>?_)
     ·simp only[sz,simprocAttr];rw[bad (by simp[S.aW,hx,hy] at *;omega)]
     ·simp only[sx,sy,↓reduceIte,Nat.reduceEqDiff,h0,h1,h5];rw[nI,hw];simp[S.aW,hx,hy] at *;omega
    ·have:j=0:=by simp at hd;omega
     subst this;simp only[sz,simprocAttr,hd,h0,h1,h5];simp[S.aW,hx] at *;omega
 ·rintro t df g ⟨rfl,-,hw⟩ -;simp only[sz,simprocAttr,ke];rw[S.aQ,hw]
def S.bS (m:Causal)(x:Mech):List Int:=x.frm.map (S.bI m)++x.noise.map (S.bQ m)
def S.bO (m:Causal):Int:=S.ah (m.roots.map λr=>(r.length:Int))
end
end Hx
end
section
namespace Hx
open Go
def Sub (a s:Nat):Prop:=∀v,a.testBit v=true->s.testBit v=true
theorem qN (s v:Nat):S.aZ s v=s.testBit v:=by rw[Nat.testBit_eq_decide_div_mod_eq,S.aZ,Nat.and_one_is_mod];rw[Bool.eq_iff_iff,beq_iff_eq,decide_eq_true_iff]
theorem wg {a s:Nat}:S.bm a s=0↔Sub a s:=by
 constructor
 ·intro h v hv;have:=congrArg (·.testBit v) h;simp[S.bm,hv] at this;exact this
 ·intro h;refine Nat.eq_of_testBit_eq λv=>?_;have:=h v;simp only[S.bm,Nat.testBit_xor,Nat.testBit_and,Nat.zero_testBit];cases ha:a.testBit v
  ·rfl
  ·rw[this ha];rfl
theorem oD (a b v:Nat):(a ||| b).testBit v=(a.testBit v || b.testBit v):=Nat.testBit_or a b v
theorem tD {n:Nat}(h:n<64)(v:Nat):(S.ap n).testBit v=decide (n=v):=by rw[Ij h,Nat.testBit_two_pow]
section
variable {p:List Nat}
def Par (p:List Nat)(v:Nat):Nat:=p[v]?.getD 0
def Cl (p:List Nat)(s:Nat):Prop:=∀v,v<p.length->s.testBit v=true->Sub (Par p v) s
theorem wV {s t:Nat}(hc:Cl p t)(h:Sub s t):∀j,j<=p.length->Sub (S.aG p s j) t
 | 0,_=>h
 | j+1,hj=>by
  have ih:=wV hc h j (by omega);rw[fP]
  split
  ·rename_i hb;rw[qN] at hb;intro v hv;rw[oD,Bool.or_eq_true] at hv;rcases hv with hv | hv
   ·exact ih v hv
   ·exact hc j (by omega) (ih j hb) v hv
  ·exact ih
theorem A5 {s t:Nat}(hc:Cl p t)(h:Sub s t):∀j,Sub (S.up p s j) t
 | 0=>h
 | j+1=>by rw[kU];exact wV hc (A5 hc h j) _ (Nat.le_refl _)
def CD (p:List Nat)(s:Nat):Prop:=Cl p s/\∀v,v<p.length->s.testBit v=true->(S.up p (Par p v) p.length).testBit v=false
theorem tz:S.aN p=true↔∀v,v<p.length->(S.up p (Par p v) p.length).testBit v=false:=by
 unfold S.aN;rw[List.all_eq_true];constructor
 ·intro h v hv;have:=h v (List.mem_range.2 hv);rw[qN] at this;simpa [Par] using this
 ·intro h v hv;have:=h v (List.mem_range.1 hv);rw[qN];simpa [Par] using this
def bct (s:Nat):Nat->Nat
 | 0=>0
 | n+1=>bct s n+(if s.testBit n then 1 else 0)
theorem z9 (s:Nat):∀n,bct s n<=n
 | 0=>Nat.le_refl _
 | n+1=>by have:=z9 s n;unfold bct;split<;>omega
theorem yi {a s:Nat}(h:Sub a s):∀n,bct a n<=bct s n
 | 0=>Nat.le_refl _
 | n+1=>by
  have:=yi h n;unfold bct
  split
  ·rename_i hb;rw[if_pos (h n hb)];omega
  ·split<;>omega
theorem D6 {a s:Nat}(h:Sub a s){v:Nat}(hv:s.testBit v=true)(ha:a.testBit v=false):∀n,v<n->bct a n<bct s n
 | 0,h0=>by omega
 | n+1,hn=>by
  unfold bct
  by_cases hvn:v=n
  ·subst hvn;have:=yi h v;rw[if_pos hv,ha];simp;omega
  ·have:=D6 h hv ha n (by omega)
   split
   ·rename_i hb;rw[if_pos (h n hb)];omega
   ·split<;>omega
theorem yh {s:Nat}:∀n,bct s n=n->∀v,v<n->s.testBit v=true
 | 0,_,v,h=>by omega
 | n+1,h,v,hv=>by
  unfold bct at h;have:=z9 s n
  split at h
  ·rename_i hb
   by_cases e:v=n
   ·subst e;exact hb
   ·exact yh n (by omega) v (by omega)
  ·omega
theorem rm {a s:Nat}(h:Sub a s)(h':Sub s a):a=s:=Nat.eq_of_testBit_eq λv=>by
 cases ha:a.testBit v
 ·cases hs:s.testBit v
  ·rfl
  ·rw[h' v hs] at ha;cases ha
 ·rw[h v ha]
theorem IK {a s:Nat}(h:Sub a s):a<=s:=by
 have:a ||| s=s:=Nat.eq_of_testBit_eq λv=>by
  rw[oD];cases ha:a.testBit v
  ·simp
  ·rw[h v ha];rfl
 rw[<-this];exact Nat.left_le_or
theorem mS (s:Nat):∀j,Sub s (S.aG p s j)
 | 0=>λ_ h=>h
 | j+1=>by
  have ih:=mS s j;rw[fP]
  split
  ·intro v hv;rw[oD,ih v hv];rfl
  ·exact ih
theorem A4 {s:Nat}{j k:Nat}(h:j<=k):Sub (S.aG p s j) (S.aG p s k):=by
 induction h with
 | refl=>exact λ_ h=>h
 | step _ ih =>
  rw[fP]
  split
  ·intro v hv;rw[oD,ih v hv];rfl
  ·exact ih
theorem CT {s:Nat}(h:S.aG p s p.length=s):Cl p s:=by
 intro v hv hb u hu;have h1:(S.aG p s v).testBit v=true:=mS s v v hb;have h2:(S.aG p s (v+1)).testBit u=true:=by rw[fP,qN,h1,if_pos rfl,oD];have:(p[v]?.getD 0).testBit u=true:=hu;rw[this];simp
 have:=A4 (p:=p) (s:=s) (show v+1<=p.length by omega) u h2;rwa [h] at this
theorem Ga {s n v:Nat}(h:s<2 ^ n)(hv:s.testBit v=true):v<n:=by
 rcases Nat.lt_or_ge v n with h1 | h1
 ·exact h1
 ·rw[Nat.testBit_lt_two_pow (Nat.lt_of_lt_of_le h (Nat.pow_le_pow_right (by decide) h1))] at hv;cases hv
theorem Jp {f:Nat->Nat}{n:Nat}(hm:∀j,Sub (f j) (f (j+1)))(hb:∀j,f j<2 ^ n)(hs:∀j,f (j+1)=f j->f (j+2)=f (j+1)):f (n+1)=f n:=by
 have key:∀j,j<=bct (f j) n\/f (j+1)=f j:=by
  intro j
  induction j with
  | zero=>exact .inl (Nat.zero_le _)
  | succ j ih =>
   rcases ih with ih | ih
   ·by_cases e:f (j+1)=f j
    ·exact .inr (hs j e)
    ·left;have:∃v,(f (j+1)).testBit v=true/\(f j).testBit v=false:=by
      apply Classical.byContradiction;intro hno;apply e;refine rm (λv hv=>?_) (hm j);cases hc:(f j).testBit v
      ·exact absurd ⟨v,hv,hc⟩ hno
      ·rfl
     obtain ⟨v,h1,h2⟩:=this;have:=D6 (hm j) h1 h2 n (Ga (hb _) h1);omega
   ·exact .inr (hs j ih)
 rcases key n with h | h
 ·have hc:bct (f n) n=n:=by have:=z9 (f n) n;omega
  refine rm (λv hv=>?_) (hm n);exact yh n hc v (Ga (hb _) hv)
 ·exact h
theorem IA {a b n:Nat}(h:a<2 ^ n)(h':b<2 ^ n):a ||| b<2 ^ n:=Nat.or_lt_two_pow h h'
theorem AF {v:Nat}(hp:∀x∈p,x<2 ^ p.length):Par p v<2 ^ p.length:=by
 unfold Par;cases h:p[v]? with
 | none=>exact Nat.pow_pos (by decide)
 | some x=>exact hp x (List.mem_of_getElem? h)
theorem wU (hp:∀x∈p,x<2 ^ p.length){s:Nat}(hs:s<2 ^ p.length):∀j,S.aG p s j<2 ^ p.length
 | 0=>hs
 | j+1=>by
  have ih:=wU hp hs j;rw[fP]
  split
  ·exact IA ih (AF hp)
  ·exact ih
theorem Gc (hp:∀x∈p,x<2 ^ p.length){s:Nat}(hs:s<2 ^ p.length):∀j,S.up p s j<2 ^ p.length
 | 0=>hs
 | j+1=>by rw[kU];exact wU hp (Gc hp hs j) _
theorem DS (hp:∀x∈p,x<2 ^ p.length){s:Nat}(hs:s<2 ^ p.length):Cl p (S.up p s p.length):=by
 apply CT;rw[<-kU];exact Jp (f:=λj=>S.up p s j) (λj=>by rw[kU];exact mS _ _) (λj=>Gc hp hs j) (λj e=>by
  have e:S.up p s (j+1)=S.up p s j:=e;show S.up p s (j+1+1)=S.up p s (j+1);rw[kU,e,<-kU,e])
theorem xZ {s:Nat}:∀j,Sub s (S.up p s j)
 | 0=>λ_ h=>h
 | j+1=>λv hv=>by rw[kU];exact mS _ _ v (xZ j v hv)
end
end Hx
end
section
namespace Hx
open Go
noncomputable section
theorem mJ {a b:List Nat}(h:∀i∈a,∀j∈b,i≠j):meets a b=false:=by simp only[meets,List.any_eq_false];intro i hi hc;exact h i hi i (List.contains_iff_mem.1 hc) rfl
theorem bH {x y:Foot}(hb:x.lk.big=false)(hb2:y.lk.big=false)(hs:x.lk.sr=[])(hs2:y.lk.sr=[])(h1:∀i∈x.wr,∀j∈y.wr,i≠j)(h2:∀i∈x.wr,∀j∈y.lk.rd,i≠j)(h3:∀i∈y.wr,∀j∈x.lk.rd,i≠j) :
  cQ x y=true:=by
 have m1:=mJ h1;have m2:=mJ h2;have m3:=mJ h3;have m4:meets y.wr x.wr=false:=mJ λi hi j hj e=>h1 j hj i hi e.symm;have m5:∀l:List Nat,meets l []=false:=λl=>by simp[meets]
 simp only[cQ,jL,g9,hb,hb2,hs,hs2,m1,m2,m3,m4,m5,fst1,List.map_nil,Bool.not_false,Bool.and_self,Bool.true_or]
 split<;>split<;>rfl
theorem jQ {g:G}{b sz bytes:Nat}{zero:List AV}{k1 k2:IntKind}{n:Nat}{K:AV->G->Prop}{D:ADf->Prop}(hn:n<=aP)(hb:n*bytes<=aP)(hg:b<=g.nx)
  (k:∀v' g',Own g' b v' sz (List.replicate n zero)->g'.nx=g.nx+1->(∀i,i<g.nx->g'.h.get i=g.h.get i)->vid v'=some g.nx->g'.lg=g.nx::g.lg->K v' g') :
  (Dl sz bytes zero (.int k1 (n:Int)) (.int k2 (n:Int)) g).sat K g D:=by
 show (match cR aP (.int k2 (.ofNat n)) with
  | some cn=>match cR cn (.int k1 (.ofNat n)) with
   | some ln=>an (Nat.ble (cn*bytes) aP) (OR.upd (.hsl g.nx 0 0 ln none) (g.new (.cells sz (f8 cn zero) 0 false false))) .fail
   | none=>.fail
  | none=>.fail).sat K g D
 simp only[cR,aa,Nat.ble_eq,if_pos hn,Nat.le_refl,if_pos hb,if_true];refine k _ _ (.inr ⟨g.nx,0,false,hg,by simp,by simp,by simp[bh,f8]⟩) (by simp) (λi hi=>?_) rfl (by simp);rw[G.new_h,aD _ _ _ (by omega)]
theorem EY (n sz id ep i off:Nat)(k:IntKind){j:Nat}(h:j<n):De n sz (.hptr id ep i off) (.int k (j:Int))=.val (.hptr id ep i (off+j*sz)):=by show an (Nat.blt j n) (OR.val (.hptr id ep i (off+j*sz))) .fail=_;rw[aa,if_pos (by simpa using h)]
def u8v (x:UInt8):AV:=.int .u8 (x.toNat:Int)
theorem zL (l:List UInt8)(h:H)(d:Nat):snap h d aF (.agg (l.map u8v))=some (.agg (l.map u8v)):=by
 have:∀l:List UInt8,aJ (Hx.snap h d 23) (l.map u8v)=some (l.map u8v):=λl=>by
  induction l with
  | nil=>rfl
  | cons x l ih =>
   simp only[List.map_cons,aJ,ih,show Hx.snap h d 23 (u8v x)=some (u8v x) from rfl]
 show (match aJ (Hx.snap h d 23) (l.map u8v) with | some ys=>some (AV.agg ys) | none=>none)=_;rw[this]
def Raw (w:AV):Prop:=w=.nils\/∃rows,w=.tsl 0 1 rows
theorem II {w:AV}{l:List Int}(hw:SlR NoP 0 .nil l w)(hr:Raw w)(c:Nat) :
  ∃w',(∀g,mP 1 w none (some (.int .i64 (min (l.length:Int) (c:Int)))) g=.val w')/\SlR NoP 0 .nil (l.take c) w':=by
 have hm:min (l.length:Int) (c:Int)=((min l.length c:Nat):Int):=by omega
 rw[hm];have hlt:(l.take c).length<9223372036854775808:=by have:=hw.1;rw[List.length_take];omega
 rcases hr with rfl | ⟨rows,rfl⟩
 ·have hl:l=[]:=hw.2;subst hl;refine ⟨.nils,λg=>?_,hlt,by simp[SlV]⟩;have:min ([]:List Int).length c=0:=by simp
  rw[this];rfl
 ·obtain ⟨h0,h1,h2⟩:=(show 0<=0/\(1=Rp.sz Int\/rows=[])/\All2 (Rp.rp NoP 0 .nil) l rows from hw.2);have hlen:=h2.len;refine ⟨.tsl 0 1 (rows.take (min l.length c)),λg=>?_,hlt,?_⟩
  ·show orV (match aQ (a7 rows) (a7 rows) (some (.int .i64 (.ofNat (min l.length c)))) with
    | none=>none
    | some h=>match aQ 0 h none with
     | none=>none
     | some l=>an (Nat.beq 1 1) (some (.tsl 0 1 (fZ (h - l) (eV l rows)))) none)=_
   have:aQ (a7 rows) (a7 rows) (some (.int .i64 (.ofNat (min l.length c))))=some (min l.length c):=by show an (Nat.ble (min l.length c) (a7 rows)) (some (min l.length c)) none=_;rw[aa,if_pos];rw[aw,<-hlen];simp;omega
   rw[this];show orV (an (Nat.beq 1 1) (some (AV.tsl 0 1 (fZ (min l.length c - 0) (eV 0 rows)))) none)=_;rw[show Nat.beq 1 1=true from rfl,bif'_true,aX,aW,List.drop_zero,Nat.sub_zero];rfl
  ·refine ⟨Nat.le_refl _,h1.elim .inl (λh=>.inr (by rw[h];simp)),?_⟩;have:=h2.take (min l.length c);rwa [show l.take (min l.length c)=l.take c by rw[Nat.min_comm,<-List.take_take,List.take_length]] at this
abbrev zW:Type:=List UInt8×UInt16×List UInt8
def S.bf (us:List UInt8):List Int:=(us.take 5).map λu=>1+(u.toNat:Int) % 4
theorem FU {P:Nat->Prop}{k:Nat}{h:H}{x:UInt16}{cs:List AV}:Rp.rp P k h x cs↔cs=[.int .u16 (x.toNat:Int)]:=by simp[Rp.rp]
theorem pi {P:Nat->Prop}{k:Nat}{h:H}{x:zW}{cs:List AV}:Rp.rp P k h x cs↔∃a b,cs=[a,.int .u16 (x.2.1.toNat:Int),b]/\SlR P k h x.1 a/\SlR P k h x.2.2 b:=by
 constructor
 ·rintro ⟨c1,c2,rfl,⟨a,rfl,h1⟩,c3,c4,rfl,h2,⟨b,rfl,h3⟩⟩;rw[FU.1 h2];exact ⟨a,b,rfl,h1,h3⟩
 ·rintro ⟨a,b,rfl,h1,h2⟩;exact ⟨[a],[_,b],rfl,⟨a,rfl,h1⟩,[_],[b],rfl,FU.2 rfl,⟨b,rfl,h2⟩⟩
theorem CX {d k:Nat}{g:G}{P:Nat->Prop}{v:AV}{x:zW}(hd:0<d)(hm:Agg x P k g.h v) :
  ∃r,ay C0 d N.aS [v] g=.val r/\IT 0 (S.bf x.1) r:=by
 obtain ⟨v',e,cs,rfl,hc⟩:=nL (gF x) (by decide) d hm;obtain ⟨a,b,rfl,hA,hB⟩:=pi.1 hc;obtain ⟨rows,r1,r2,r3,r4⟩:=hA.all;have r1:∀h',ak h' 1 a=some rows:=r1;rw[mo];refine bK nR (xs:=[.agg [a,.int .u16 (x.2.1.toNat:Int),b]]) (by simp only[aJ,e]) (by simp[eQ]) (bL _) (by decide) hd ?_;have hL:(S.bf x.1).length=min x.1.length 5:=by simp[S.bf];omega
 simp only[sz,simprocAttr,eQ,gI];refine aV (min x.1.length 5) (by omega) (λj t df g=>df=[]/\tat t 1=.hptr 0 0 0 0/\g.h.get 0=.cells 3 [[a,.int .u16 (x.2.1.toNat:Int),b]] 0 false false/\1<=g.nx/\∃u,tat t 3=u/\Own g 1 u 1 (((S.bf x.1).take j).map ci))
  ⟨rfl,by simp[sx],by simp[sx],by simp[sx],_,rfl,.inl ⟨by simp[sx],rfl⟩⟩ (by simp[sx]) (by decide)
  (by rintro j t df g v s (rfl | rfl | rfl)<;>simp[sx]) ?_ ?_ ?_
 ·rintro j t df g hj ⟨rfl,h1,hg,hnx,u,h3,hu⟩ h4
  by_cases hlt:(j:Int)<(x.1.length:Int)
  ·have:decide ((j:Int)<((min x.1.length 5:Nat):Int))=decide ((j:Int)<5):=by congr 1;apply propext;omega
   simp only[sz,simprocAttr,h1,h4,hg,hA.len,hlt,this];exact ⟨hnx,u,h3,hu⟩
  ·have:decide ((j:Int)<((min x.1.length 5:Nat):Int))=false:=decide_eq_false (by omega);simp only[sz,simprocAttr,h1,h4,hg,hA.len,hlt,this];exact ⟨hnx,u,h3,hu⟩
 ·rintro j t df g hj ⟨rfl,h1,hg,hnx,u,h3,hu⟩ h4;obtain ⟨y,hy,-,-⟩:=aq (l:=x.1) (j:=j) (by omega);obtain ⟨z,hz,htk,-⟩:=aq (l:=S.bf x.1) (j:=j) (by omega);have hzy:z=1+(y.toNat:Int) % 4:=by
   have:(S.bf x.1)[j]?=some (1+(y.toNat:Int) % 4):=by simp[S.bf,show j<5 by omega,hy]
   rw[this] at hz;injection hz with hz;exact hz.symm
  obtain ⟨row,z1,z2⟩:=r3 j y hy;rw[dc.1 z2] at z1;have hlt:j<rows.length:=by omega
  have hy8:y.toNat<256:=y.toNat_lt;have m1:0<=(y.toNat:Int) % 4:=by omega
  have m2:(y.toNat:Int) % 4<4:=by omega
  simp only[sz,simprocAttr,h1,h3,h4,hg,r1,hlt,z1,cH .u8 (show (0:Int)<=(y.toNat:Int) by omega) (show (0:Int)<4 by decide),aB (show -9223372036854775808<=(y.toNat:Int) % 4 by omega) (show (y.toNat:Int) % 4<9223372036854775808 by omega),aB (show -9223372036854775808<=1+(y.toNat:Int) % 4 by omega) (show 1+(y.toNat:Int) % 4<9223372036854775808 by omega)];refine aA (new:=[ci (1+(y.toNat:Int) % 4)]) (hu.step (Fr.new _ _)) (by simp[sx,sy,ci]) (by simp) (by simp[aP];omega) λv2 g2 hv2 n2 f2 _ l2=>?_;simp only[sz,simprocAttr,h1,h4];refine ⟨?_,?_,_,rfl,?_⟩
  ·rw[f2 0 (by simp) (λe=>by have:=(hu.lt e).1;omega),G.new_h,aD _ _ _ (by omega),hg]
  ·simp at n2;omega
  ·rw[htk,hzy];simpa [ci] using hv2
 ·rintro t df g ⟨rfl,h1,hg,hnx,u,h3,hu⟩;rw[List.take_of_length_le (by omega)] at hu;simp only[sz,simprocAttr,gn,h3];exact ⟨_,hu.ints (by omega)⟩
theorem uL {g:G}{b sz:Nat}{u:AV}{rows:List (List AV)}(hu:Own g b u sz rows){n:Nat}(hn:n<=rows.length) :
  ∃y,mP sz u none (some (.int .i64 (n:Int))) g=.val y/\ak g.h sz y=some (rows.take n):=by
 rcases hu with ⟨rfl,rfl⟩ | ⟨id,ep,lo,h1,h2,rfl,h3⟩
 ·have:n=0:=by simpa using hn
  subst this;exact ⟨.nils,rfl,rfl⟩
 ·simp only[mP,jX,h3,Nat.beq_refl,Nat.beq_refl,Bool.true_and,aw,Nat.zero_add,aa,Nat.ble_eq,Nat.le_refl,if_true,aQ,Option.getD_none,Nat.sub_zero];simp only[cR];rw[show an (n.ble rows.length) (some n) none=some n from by rw[aa,if_pos (by simpa using hn)]];dsimp only
  by_cases h0:rows=[]
  ·subst h0;have:n=0:=by simpa using hn
   subst this;cases lo
   ·exact ⟨_,rfl,rfl⟩
   ·exact ⟨_,rfl,jT _ _ _ _⟩
  ·have hb:rows.length.beq 0=false:=by cases rows with | nil=>exact absurd rfl h0 | cons a l=>rfl
   rw[hb];refine ⟨_,rfl,?_⟩;rw[dx,h3,bV,if_pos (by omega),List.drop_zero]
theorem uM {g:G}{b sz:Nat}{u:AV}{rows:List (List AV)}(hu:Own g b u sz rows){n:Nat}(hn:n<=rows.length) :
  ∃y,mP sz u (some (.int .i64 (n:Int))) none g=.val y/\ak g.h sz y=some (rows.drop n):=by
 rcases hu with ⟨rfl,rfl⟩ | ⟨id,ep,lo,h1,h2,rfl,h3⟩
 ·have:n=0:=by simpa using hn
  subst this;exact ⟨.nils,rfl,rfl⟩
 ·simp only[mP,jX,h3,Nat.beq_refl,Nat.beq_refl,Bool.true_and,aw,Nat.zero_add,aa,Nat.ble_eq,Nat.le_refl,if_true,aQ,Option.getD_none,Nat.sub_zero];simp only[cR];rw[show an (n.ble rows.length) (some n) none=some n from by rw[aa,if_pos (by simpa using hn)]];dsimp only
  by_cases h0:rows.length=n
  ·subst h0;rw[if_pos (Nat.beq_refl _),List.drop_length];cases lo
   ·exact ⟨_,rfl,rfl⟩
   ·exact ⟨_,rfl,jT _ _ _ _⟩
  ·rw[if_neg (λe=>h0 (Nat.eq_of_beq_eq_true e))];refine ⟨_,rfl,?_⟩;rw[dx,h3,bV,if_pos (by omega),List.take_of_length_le (by simp)]
def S.a9 (os:List UInt8)(k:Nat):Nat:=if k<os.length then ((os[k]?.map UInt8.toNat).getD 0) % (k+1) else 0
def S.aD (os:List UInt8):Nat->List Int
 | 0=>[]
 | k+1=>(S.aD os k).take (S.a9 os k)++(k:Int)::(S.aD os k).drop (S.a9 os k)
theorem mg (os:List UInt8):∀k,(S.aD os k).length=k
 | 0=>rfl
 | k+1=>by simp only[S.aD,List.length_append,List.length_cons,List.length_take,List.length_drop,mg os k];omega
theorem uA {d k:Nat}{g:G}{P:Nat->Prop}{v:AV}{x:zW}(hd:0<d)(hm:Agg x P k g.h v) :
  ∃r,ay C0 d N.ak [v] g=.val r/\IT 0 (S.aD x.2.2 (min x.1.length 5)) r:=by
 obtain ⟨v',e,cs,rfl,hc⟩:=nL (gF x) (by decide) d hm;obtain ⟨a,b,rfl,hA,hB⟩:=pi.1 hc;have hms:∀g:G,Agg x NoP (max k d) g.h (.agg [a,.int .u16 (x.2.1.toNat:Int),b]):=λg=>⟨_,rfl,pi.2 ⟨a,b,rfl,hA.tree (Nat.le_refl _),hB.tree (Nat.le_refl _)⟩⟩;obtain ⟨rows,r1,r2,r3,r4⟩:=hB.all;have r1:∀h',ak h' 1 b=some rows:=r1;rw[iI];refine bK jv (xs:=[.agg [a,.int .u16 (x.2.1.toNat:Int),b]]) (by simp only[aJ,e]) (by simp[cD]) (bL _) (by decide) hd ?_;have hL:(S.bf x.1).length=min x.1.length 5:=by simp[S.bf];omega
 simp only[sz,simprocAttr,cD,dK];refine aV (min x.1.length 5) (by omega) (λj t df g=>df=[]/\tat t 1=.hptr 0 0 0 0/\g.h.get 0=.cells 3 [[a,.int .u16 (x.2.1.toNat:Int),b]] 0 false false/\1<=g.nx/\∃u,tat t 3=u/\Own g 1 u 1 ((S.aD x.2.2 j).map ci))
  ⟨rfl,by simp[sx],by simp[sx],by simp[sx],_,rfl,.inl ⟨by simp[sx],rfl⟩⟩ (by simp[sx]) (by decide)
  (by rintro j t df g v s (rfl | rfl | rfl)<;>simp[sx]) ?_ ?_ ?_
 ·rintro j t df g hj ⟨rfl,h1,hg,hnx,u,h3,hu⟩ h4;simp only[sz,simprocAttr,h1,h4,hg];refine cF (CX (Nat.succ_pos d) (hms _)) λr hr=>?_;simp only[sz,simprocAttr,h1,h4,hg,(hr.sl .nil).len,hL];exact ⟨hnx,u,h3,hu⟩
 ·rintro j t df g hj ⟨rfl,h1,hg,hnx,u,h3,hu⟩ h4;have hpl:((S.aD x.2.2 j).map ci).length=j:=by rw[List.length_map,mg]
  have hle:S.a9 x.2.2 j<=j:=by
   unfold S.a9;split
   ·have:=Nat.mod_lt (((x.2.2)[j]?.map UInt8.toNat).getD 0) (show 0<j+1 by omega);omega
   ·omega
  have key:∀(t:T) (Q:QT),tat t 1=.hptr 0 0 0 0->tat t 3=u->tat t 4=.int .i64 (j:Int)->tat t 5=.int .i64 (S.a9 x.2.2 j:Int) ->
    (∀(t':T) (g':G),tat t' 1=.hptr 0 0 0 0->tat t' 4=.int .i64 (j:Int)->g'.h.get 0=.cells 3 [[a,.int .u16 (x.2.1.toNat:Int),b]] 0 false false->1<=g'.nx->(∃u,tat t' 3=u/\Own g' 1 u 1 ((S.aD x.2.2 (j+1)).map ci))->Q .norm t' [] g') ->
    wp C0 (d+1) none bP Q t [] g:=by
   intro t Q h1 h3 h4 h5 kk;obtain ⟨y1,s1,w1⟩:=uL hu (n:=S.a9 x.2.2 j) (by omega);simp only[sz,simprocAttr,bP,h3,h5,List.head?_nil,List.head?_cons,s1];refine aA (rows:=[]) (b:=1) (.inl ⟨rfl,rfl⟩) w1 hnx (by simp[aP];omega) λv1 g1 hv1 n1 f1 vid1 _=>?_;simp only[sz,simprocAttr,h4];refine aA (new:=[ci (j:Int)]) (hv1.step (Fr.new _ _)) (by simp[sx,sy,ci]) (by simp) (by simp[aP,mg];omega) λv2 g2 hv2 n2 f2 vid2 _=>?_;have hu1:Own g1 1 u 1 ((S.aD x.2.2 j).map ci):=hu.fr n1 λi hi=>f1 i (hu.lt hi).2 (by simp[vid]);have hnv:∀i,i<g.nx->vid v1≠some i:=λi hi e=>by
    rcases vid1 with h | ⟨i',h,hi'⟩
    ·rw[h] at e;cases e
    ·rw[h] at e;injection e with e;omega
   have hu2:Own g2 1 u 1 ((S.aD x.2.2 j).map ci):=hu1.fr (by simp at n2;omega) λi hi=>by have hlt:=(hu.lt hi).2;rw[f2 i (by simp;omega) (hnv i hlt),G.new_h,aD _ _ _ (by omega)]
   obtain ⟨y2,s2,w2⟩:=uM hu2 (n:=S.a9 x.2.2 j) (by omega);simp only[sz,simprocAttr,h3,h5,List.head?_nil,List.head?_cons,s2];refine aA hv2 w2 (by simp at n2;omega) (by simp[aP,mg];omega) λv3 g3 hv3 n3 f3 _ _=>?_;simp only[sz,simprocAttr];refine kk _ _ (by simp[sx,h1]) (by simp[sx,h4]) ?_ (by simp at n2;omega) ⟨_,rfl,?_⟩
   ·rw[f3 0 (by simp at n2;omega) (λe=>by have:=(hv2.lt e).1;omega),f2 0 (by simp) (hnv 0 (by omega)),G.new_h,aD _ _ _ (by omega),f1 0 (by omega) (by simp[vid]),hg]
   ·simp only[sx,↓reduceIte];simpa [S.aD,List.map_take,List.map_drop] using hv3
  simp only[sz,simprocAttr,h1,h4,hg,hB.len];refine a9 (λhb=>?_) (λhb=>?_)
  ·have hjo:j<x.2.2.length:=by simp at hb;omega
   obtain ⟨y,hy⟩:∃y,x.2.2[j]?=some y:=⟨_,List.getElem?_eq_getElem hjo⟩;obtain ⟨row,z1,z2⟩:=r3 j y hy;rw[dc.1 z2] at z1;have hy8:y.toNat<256:=y.toNat_lt;have hlt:j<rows.length:=by omega
   have hat:((S.a9 x.2.2 j:Nat):Int)=(y.toNat:Int) % ((j:Int)+1):=by unfold S.a9;rw[if_pos hjo,hy];simp
   simp only[sz,simprocAttr,h1,h4,hg,r1,hlt,z1,aB (show -9223372036854775808<=(y.toNat:Int) by omega) (show (y.toNat:Int)<9223372036854775808 by omega),aB (show -9223372036854775808<=(j:Int)+1 by omega) (show (j:Int)+1<9223372036854775808 by omega),cH .i64 (show (0:Int)<=(y.toNat:Int) by omega) (show 0<(j:Int)+1 by omega)];refine key _ _ (by simp[sx,h1]) (by simp[sx,h3]) (by simp[sx,h4]) (by simp[sx,hat]) λt' g' e1 e4 e0 en eu=>?_;simp only[sy,e1,e4,e0];exact ⟨en,eu⟩
  ·have hat:S.a9 x.2.2 j=0:=by unfold S.a9;rw[if_neg];simp at hb;omega
   simp only[sx];refine key _ _ (by simp[sx,h1]) (by simp[sx,h3]) (by simp[sx,h4]) (by simp[sx,hat]) λt' g' e1 e4 e0 en eu=>?_;simp only[sy,e1,e4,e0];exact ⟨en,eu⟩
 ·rintro t df g ⟨rfl,h1,hg,hnx,u,h3,hu⟩;simp only[sz,simprocAttr,dA,h3];exact ⟨_,hu.ints (by rw[mg];omega)⟩
def S.bH (cards:List Int):List Int->Nat->List Int×Bool
 | vals,0=>(vals,false)
 | vals,k+1=>if (vals[k]?.getD 0)+1<(cards[k]?.getD 0) then (vals.set k ((vals[k]?.getD 0)+1),true) else S.bH cards (vals.set k 0) k
def S.bG (cards vals:List Int):List Int×Bool:=S.bH cards vals vals.length
def S.bD (cards:List Int):Nat->List Int->List (List Int)
 | 0,_=>[]
 | f+1,v=>v::(if (S.bG cards v).2 then S.bD cards f (S.bG cards v).1 else [])
def S.bT (cards:List Int):List (List Int):=S.bD cards (S.ah cards).toNat (List.replicate cards.length 0)
def S.bu:List Int->List Int->Int
 | _::cs,v::vs=>v*S.ah cs+S.bu cs vs
 | _,_=>0
theorem wP {l:List Int}(hc:∀c∈l,1<=c/\c<=4)(hl:l.length<=13):S.a_ l=S.ah l:=by
 have pw:∀n,n<=13->(4:Int) ^ n<=67108864:=λn hn=>by
  have:=jo hn;have e:(4:Int) ^ 13=67108864:=by decide
  omega
 have key:∀j,j<=l.length->S.a_ (l.take j)=S.ah (l.take j):=by
  intro j
  induction j with
  | zero=>intro _;rfl
  | succ j ih =>
   intro hj;obtain ⟨x,hx,htk,hm⟩:=aq (l:=l) (j:=j) (by omega);have ih:=ih (by omega);have hb:=fM (l:=l.take (j+1)) λy hy=>hc y (List.mem_of_mem_take hy);have:=pw (l.take (j+1)).length (by simp;omega);rw[htk] at hb this ⊢;rw[rP] at hb ⊢;show S.a_ (l.take j++[x])=_;unfold S.a_ at ih ⊢;rw[List.foldl_append,ih];show IntKind.wrap .i64 (S.ah (l.take j)*x)=_;rw[aB (by omega) (by omega)]
 have:=key l.length (Nat.le_refl _);rwa [List.take_length] at this
end
end Hx
end
section
namespace Hx
open Go
def S.bP (x:Mech)(roots:List Int)(V:Nat->Int):List Int:=(x.frm.map λq=>V q.toNat)++(x.noise.map λr=>roots[r.toNat]?.getD 0)
def S.bJ (m:Causal)(roots act:List Int)(V:Nat->Int)(i:Nat)(x:Mech):Int:=if 0<=act[i]?.getD 0 then act[i]?.getD 0 else x.out[(S.bu (S.bS m x) (S.bP x roots V)).toNat]?.getD 0
def Sol (m:Causal)(roots act:List Int)(V:Nat->Int):Prop:=∀(i:Nat) (x:Mech),m.nodes[i]?=some x->V i=S.bJ m roots act V i x
noncomputable def S.V (m:Causal)(roots act:List Int):Nat->Int:=Classical.epsilon (Sol m roots act)
noncomputable def S.bU (m:Causal)(roots act:List Int):List Int:=(List.range m.nodes.length).map (S.V m roots act)
end Hx
end
section
namespace Hx
open Go
noncomputable section
def hz (cs vs:List Int)(j:Nat):Int:=((cs.zip vs).take j).foldl (λa p=>a*p.1+p.2) 0
section
variable {d k:Nat}{m:Causal}{roots act:List Int}{V:Nat->Int}{a b w u:AV}{p1 p2 p3 p4 iu:Nat}{hid:Int}{r:Nat->Nat}
end
end
end Hx
end
section
namespace Hx
open Go
noncomputable section
theorem Dj (ag:Bool)(n l sz off:Nat)(row:List AV)(g:G):nA ag n (.tptr l sz [row] 0 off) g=orV (bC ag n row off):=rfl
section
variable {d:Nat}{m:Causal}{a b:AV}
end
end
end Hx
end
section
namespace Hx
open Go
noncomputable section
theorem wi {C:Cfg}{d:Nat}{r:List SR}{t:T}{g:G}{K:AV->G->Prop}{id:Nat}(hg:g.h.get id=.dfr true)(h:tc r t (g.put id (.dfr false)) λvs=>K (iD vs) (g.put id (.dfr false))):yD C d r t [.mark id] g K:=by
 unfold yD;have:eN (I C) d [.mark id] g=some (g.put id (.dfr false)):=by simp only[eN,G.get_eq,hg]
 rw[this];exact h
def Fam (g:G)(b K:Nat)(V:Nat->AV)(W:Nat->List (List AV)):Prop :=
 (∀k,k<K->Own g b (V k) 1 (W k))/\∀k l,k<K->l<K->k≠l->∀id,vid (V k)=some id->vid (V l)≠some id
def Jz (c:Nat->Int)(V:Nat->AV)(i:Nat):List AV:=[.int .i64 (c i),V (3*i+1),V (3*i+2),V (3*i+3)]
def FQ (n:Nat)(c:Nat->Int)(V:Nat->AV):List (List AV):=(List.range n).map (Jz c V)
structure ME where
 (n p4 q i5 p7 i9 b:Nat)
 (nv w5 w9 e7:AV)
 (gr:Int)
 (row0:List AV)
 (prow:List (List AV))
 (us:List UInt8)
structure ME.Ok (e:ME):Prop where
 ord:1<e.q/\e.q<e.p4/\e.p4<e.i5/\e.i5<e.p7/\e.p7<e.i9/\e.i9<e.b
 n1:1<=e.n/\e.n<=4
 g1:2<=e.gr/\e.gr<=12
 vn:vid e.nv=some e.q
 v5:vid e.w5=some e.i5
 v9:vid e.w9=some e.i9
 l7:SlR NoP 0 .nil e.us e.e7
structure MI (e:ME) (g:G) (V:Nat->AV) (W:Nat->List (List AV)) (c:Nat->Int) (ow:List Bool) (cap:Nat):Prop where
 h0:g.h.get 0=.cells 5 [e.row0] 0 false false
 h1:g.h.get 1=.cells 3 [[.int .i64 0,.nils,.nils]] 0 false false
 hN:Own g 0 e.nv 4 (FQ e.n c V)
 h4:g.h.get e.p4=.cells 3 [[.int .i64 e.gr,V 0,e.nv]] 0 false false
 h5:Own g 0 e.w5 4 e.prow
 h7:∃cc:Int,0<=cc/\cc<=(cap:Int)/\g.h.get e.p7=.cells 2 [[e.e7,.int .i64 cc]] 0 false false
 h9:Own g 0 e.w9 1 (ow.map λx=>[.bool x])
 fam:Fam g e.b (3*e.n+1) V W
 nx:e.b<=g.nx
section
variable {e:ME}{g g':G}{V:Nat->AV}{W:Nat->List (List AV)}{c:Nat->Int}{ow:List Bool}{cap:Nat}
theorem eH {v:AV}{i j:Nat}(h:vid v=some i)(h':vid v=some j):i=j:=by rw[h] at h';injection h'
structure MP (e:ME) (g:G) (V V':Nat->AV) (W:Nat->List (List AV)) (c:Nat->Int) (ow:List Bool) (cap:Nat):Prop where
 h0:g.h.get 0=.cells 5 [e.row0] 0 false false
 h1:g.h.get 1=.cells 3 [[.int .i64 0,.nils,.nils]] 0 false false
 hN:Own g 0 e.nv 4 (FQ e.n c V)
 h4:g.h.get e.p4=.cells 3 [[.int .i64 e.gr,V 0,e.nv]] 0 false false
 h5:Own g 0 e.w5 4 e.prow
 h7:∃cc:Int,0<=cc/\cc<=(cap:Int)/\g.h.get e.p7=.cells 2 [[e.e7,.int .i64 cc]] 0 false false
 h9:Own g 0 e.w9 1 (ow.map λx=>[.bool x])
 fam:Fam g e.b (3*e.n+1) V' W
 nx:e.b<=g.nx
end
end
end Hx
end
section
namespace Hx
open Go
noncomputable section
structure MD (e:ME) (W:Nat->List (List AV)) (R:List (List Int)) (F N O:Nat->List Int):Prop where
 r:All2 (Rp.rp NoP 0 .nil) R (W 0)
 f:∀i,i<e.n->W (3*i+1)=(F i).map ci
 n:∀i,i<e.n->W (3*i+2)=(N i).map ci
 o:∀i,i<e.n->W (3*i+3)=(O i).map ci
theorem rA {α β γ:Type}{R:β->γ->Prop}{f:α->β}{h:α->γ}:∀{l:List α},(∀x∈l,R (f x) (h x))->All2 R (l.map f) (l.map h)
 | [],_=>trivial
 | a::l,hl=>⟨hl a (by simp),rA λx hx=>hl x (by simp[hx])⟩
theorem SlR.wide {α:Type} [Rp α]{P:Nat->Prop}{k k':Nat}{h h':H}{l:List α}{v:AV}(r:SlR NoP k h l v)(hk:k<=k'):SlR P k' h' l v:=by obtain ⟨w,hw,q⟩:=Rp.tree (P:=P) (k':=k') (h':=h') (show Rp.rp NoP k h l [v] from ⟨v,rfl,r⟩) hk;injection hw with hw;subst hw;exact q
structure M0 (n p4 q i5 p7:Nat) (nv w5 cl:AV) (row0:List AV) (prow:List (List AV)) (gr:Int) (g:G) (cf:Nat->Int):Prop where
 h0:g.h.get 0=.cells 5 [row0] 0 false false
 h1:g.h.get 1=.cells 3 [[.int .i64 0,.nils,.nils]] 0 false false
 hN:Own g 2 nv 4 (FQ n cf λ_=>.nils)
 h4:g.h.get p4=.cells 3 [[.int .i64 gr,.nils,nv]] 0 false false
 h5:Own g 2 w5 4 prow
 h7:g.h.get p7=.cells 2 [[cl,.int .i64 0]] 0 false false
 nx:p7<g.nx
section
variable {n p4 q i5 p7:Nat}{nv w5 cl:AV}{row0:List AV}{prow:List (List AV)}{gr:Int}{g g':G}{cf cf':Nat->Int}
end
end
end Hx
end
section
namespace Hx
open Go
noncomputable section
def eid:AV->Option Nat
 | .hsl id _ _ _ _=>some id
 | .hptr id _ _ _=>some id
 | _=>none
def Bx (g:G)(b:Nat)(v:AV)(row:List AV):Prop:=∃id,b<=id/\id<g.nx/\v=.hptr id 0 0 0/\g.h.get id=.cells row.length [row] 0 false false
inductive En where
 | sl (sz:Nat) (rows:List (List AV))
 | bx (row:List AV)
def En.ok (g:G)(b:Nat)(v:AV):En->Prop
 | .sl sz rows=>Own g b v sz rows
 | .bx row=>Bx g b v row
theorem bG {g:G}{b:Nat}{v:AV}{sz:Nat}{rows:List (List AV)}(h:Own g b v sz rows):eid v=vid v:=by rcases h with ⟨rfl,-⟩ | ⟨id,ep,lo,h1,h2,rfl,h3⟩<;>rfl
theorem En.lt {g:G}{b:Nat}{v:AV}{e:En}(h:e.ok g b v){i:Nat}(hi:eid v=some i):b<=i/\i<g.nx:=by
 cases e with
 | sl sz rows =>
  have h:Own g b v sz rows:=h;rw[bG h] at hi;exact h.lt hi
 | bx row =>
  obtain ⟨id,h1,h2,rfl,h3⟩:=h;injection hi with hi;subst hi;exact ⟨h1,h2⟩
theorem En.fr {g g':G}{b:Nat}{v:AV}{e:En}(h:e.ok g b v)(hn:g.nx<=g'.nx)(hf:∀i,eid v=some i->g'.h.get i=g.h.get i):e.ok g' b v:=by
 cases e with
 | sl sz rows =>
  have h:Own g b v sz rows:=h;exact h.fr hn λi hi=>hf i (by rw[bG h];exact hi)
 | bx row =>
  obtain ⟨id,h1,h2,rfl,h3⟩:=h;exact ⟨id,h1,by omega,rfl,by rw[hf id rfl,h3]⟩
section
variable {κ:Type}
structure Hp (g:G) (b:Nat) (L:κ->Prop) (V:κ->AV) (E:κ->En):Prop where
 ok:∀k,L k->(E k).ok g b (V k)
 sep:∀k l,L k->L l->k≠l->∀id,eid (V k)=some id->eid (V l)≠some id
 nx:b<=g.nx
variable {g g':G}{b:Nat}{L L':κ->Prop}{V:κ->AV}{E:κ->En}{k:κ}
theorem Hp.sub (h:Hp g b L V E)(hl:∀k,L' k->L k):Hp g b L' V E:=⟨λk hk=>h.ok k (hl k hk),λk l hk hl2=>h.sep k l (hl k hk) (hl l hl2),h.nx⟩
theorem Hp.step (h:Hp g b L V E)(hn:g.nx<=g'.nx)(hf:∀i,b<=i->i<g.nx->g'.h.get i=g.h.get i):Hp g' b L V E :=
 ⟨λk hk=>En.fr (h.ok k hk) hn λi hi=>hf i (En.lt (h.ok k hk) hi).1 (En.lt (h.ok k hk) hi).2,h.sep,Nat.le_trans h.nx hn⟩
theorem Hp.same (h:Hp g b L V E)(hf:g'.h=g.h)(hn:g.nx<=g'.nx):Hp g' b L V E:=h.step hn λi _ _=>by rw[hf]
theorem Hp.own (h:Hp g b L V E)(hk:L k){sz:Nat}{rows:List (List AV)}(he:E k=.sl sz rows):Own g b (V k) sz rows:=by have:=h.ok k hk;rw[he] at this;exact this
theorem Hp.box (h:Hp g b L V E)(hk:L k){row:List AV}(he:E k=.bx row):Bx g b (V k) row:=by have:=h.ok k hk;rw[he] at this;exact this
end
section
variable {κ:Type} [DecidableEq κ]
def ups {α:Type}(f:κ->α)(k:κ)(x:α):κ->α:=λj=>if j=k then x else f j
theorem ah {α:Type}(f:κ->α)(k:κ)(x:α):ups f k x k=x:=if_pos rfl
theorem ac {α:Type}(f:κ->α){k j:κ}(x:α)(h:j≠k):ups f k x j=f j:=if_neg h
theorem Gd {α:Type}{f:κ->α}{k:κ}{x:α}(h:f k=x):ups f k x=f:=by
 funext j;by_cases e:j=k
 ·subst e;rw[ah,h]
 ·exact ac _ _ e
variable {g g':G}{b:Nat}{L L':κ->Prop}{V:κ->AV}{E:κ->En}{k:κ}
theorem Hp.set (h:Hp g b L V E){v':AV}{e':En}(hk:L k)(ho:e'.ok g' b v')(hn:g.nx<=g'.nx)(hf:∀i,b<=i->i<g.nx->eid (V k)≠some i->g'.h.get i=g.h.get i)
  (hv:eid v'=eid (V k)\/∃i,eid v'=some i/\g.nx<=i):Hp g' b L (ups V k v') (ups E k e'):=by
 refine ⟨λj hj=>?_,λj l hj hl hne id e1 e2=>?_,Nat.le_trans h.nx hn⟩
 ·by_cases e:j=k
  ·subst e;rw[ah,ah];exact ho
  ·rw[ac _ _ e,ac _ _ e];exact En.fr (h.ok j hj) hn λi hi=>hf i (En.lt (h.ok j hj) hi).1 (En.lt (h.ok j hj) hi).2 λe2=>h.sep j k hj hk e i hi e2
 ·have key:∀j,L j->j≠k->∀id,eid (V j)=some id->eid v'≠some id:=λj hj hne id e1 e2=>by
   rcases hv with hv | ⟨i,hv,hi⟩
   ·exact h.sep j k hj hk hne id e1 (hv ▸ e2)
   ·rw[hv] at e2;injection e2 with e2;have:=(En.lt (h.ok j hj) e1).2;omega
  by_cases a:j=k
  ·subst a;rw[ah] at e1;rw[ac _ _ (Ne.symm hne)] at e2;exact key l hl (Ne.symm hne) id e2 e1
  ·rw[ac _ _ a] at e1
   by_cases c:l=k
   ·subst c;rw[ah] at e2;exact key j hj a id e1 e2
   ·rw[ac _ _ c] at e2;exact h.sep j l hj hl hne id e1 e2
theorem Hp.add (h:Hp g b L V E){v':AV}{e':En}(hk:¬L k)(ho:e'.ok g' b v')(hn:g.nx<=g'.nx)(hf:∀i,b<=i->i<g.nx->g'.h.get i=g.h.get i)
  (hv:∀i,eid v'=some i->g.nx<=i) (hl:∀j,L' j->L j\/j=k):Hp g' b L' (ups V k v') (ups E k e'):=by
 refine ⟨λj hj=>?_,λj l hj hl2 hne id e1 e2=>?_,Nat.le_trans h.nx hn⟩
 ·rcases hl j hj with hj | rfl
  ·have e:j≠k:=λe=>hk (e ▸ hj);rw[ac _ _ e,ac _ _ e];exact En.fr (h.ok j hj) hn λi hi=>hf i (En.lt (h.ok j hj) hi).1 (En.lt (h.ok j hj) hi).2
  ·rw[ah,ah];exact ho
 ·have key:∀j,L j->∀id,eid (V j)=some id->eid v'≠some id:=λj hj id e1 e2=>by have:=hv id e2;have:=(En.lt (h.ok j hj) e1).2;omega
  rcases hl j hj with hj | rfl
  ·have e:j≠k:=λe=>hk (e ▸ hj);rw[ac _ _ e] at e1;rcases hl l hl2 with hl2 | rfl
   ·have e':l≠k:=λe=>hk (e ▸ hl2);rw[ac _ _ e'] at e2;exact h.sep j l hj hl2 hne id e1 e2
   ·rw[ah] at e2;exact key j hj id e1 e2
  ·rw[ah] at e1;rcases hl l hl2 with hl2 | rfl
   ·have e':l≠j:=λe=>hne e.symm;rw[ac _ _ e'] at e2;exact key l hl2 id e2 e1
   ·exact hne rfl
theorem Hp.app (h:Hp g b L V E)(hk:L k){sz bytes:Nat}{rows new:List (List AV)}(he:E k=.sl sz rows){x:AV}{K:AV->G->Prop}{D:ADf->Prop}(hx:ak g.h sz x=some new)
  (hr:(rows.length+new.length)*bytes<=aP)
  (kk:∀v' g',Hp g' b L (ups V k v') (ups E k (.sl sz (rows++new)))->g.nx<=g'.nx->(∀i,i<b->g'.h.get i=g.h.get i)->(∀i,i<g.nx->eid (V k)≠some i->g'.h.get i=g.h.get i)->(∀i∈g'.lg,i∈g.lg\/b<=i)->v'.cells=[v']->v'.isTup=false->K v' g') :
  (dJ sz bytes (V k) x g).sat K g D:=by
 have ho:=h.own hk he;refine aA ho hx h.nx hr λv' g' hv' hn hf hvid hlg=>?_;refine kk v' g' (h.set hk (e':=.sl sz (rows++new)) hv' hn (λi _ hi hne=>hf i hi (by rw[<-bG ho];exact hne)) ?_) hn (λi hi=>hf i (Nat.lt_of_lt_of_le hi h.nx) λe=>by have:=(ho.lt e).1;omega)
  (λi hi hne=>hf i hi (by rw[<-bG ho];exact hne)) hlg hv'.cell.1 hv'.cell.2
 rw[bG hv',bG ho];exact hvid
theorem Hp.put (h:Hp g b L V E)(hk:L k){sz n i off:Nat}{rows:List (List AV)}{row row':List AV}(he:E k=.sl sz rows){x:AV}{K:AV->G->Prop}{D:ADf->Prop}(hr:rows[i]?=some row)
  (hl:x.cells.length=n) (ht:x.isTup=false) (hp:bB row off x.cells=some row')
  (kk:∀g',Hp g' b L V (ups E k (.sl sz (rows.set i row')))->g'.nx=g.nx->(∀i,i<b->g'.h.get i=g.h.get i)->(∀i,eid (V k)≠some i->g'.h.get i=g.h.get i)->K .undef g'):(jY n (eg sz (V k) i off) x g).sat K g D:=by
 have ho:=h.own hk he;refine bM ho hr hl ht hp λg' hv' hn hf=>?_;have:=h.set hk (e':=.sl sz (rows.set i row')) hv' (by omega) (λi _ hi hne=>hf i (by rw[<-bG ho];exact hne)) (.inl rfl);rw[Gd (f:=V) rfl] at this;exact kk g' this hn (λi hi=>hf i λe=>by have:=(ho.lt e).1;omega) λi hne=>hf i (by rw[<-bG ho];exact hne)
theorem Hp.putb (h:Hp g b L V E)(hk:L k){row row':List AV}(he:E k=.bx row){id:Nat}(hv:V k=.hptr id 0 0 0)(hl:row'.length=row.length):Hp (g.put id (.cells row.length [row'] 0 false false)) b L V (ups E k (.bx row')):=by
 obtain ⟨id',h1,h2,h3,h4⟩:=h.box hk he;rw[hv] at h3;injection h3 with h3;subst h3;have:=h.set (g':=g.put id (.cells row.length [row'] 0 false false)) hk (e':=.bx row') (v':=.hptr id 0 0 0) ⟨id,h1,by simpa using h2,rfl,by rw[hl];simp[bh]⟩ (by simp) (λi _ hi hne=>by
  rw[G.put_h,aD _ _ _ (λe=>hne (by rw[hv,e];rfl))]) (.inl (by rw[hv]))
 rw[Gd (f:=V) hv] at this;exact this
end
end
end Hx
end
section
namespace Hx
open Go
noncomputable section
theorem bT {C:Cfg}{d:Nat}{rd:Option Nat}{l:List SI}{b:SC}{Q:QT}{t:T}{df:List ADf}{g:G}{P:PT}(h1:wpO C d rd l P t df g)(h2:∀t df g,P t df g->wp C d rd b Q t df g):wp C d rd (.seq (.ops l) b) Q t df g:=by
 rw[iY];have:wp C d rd (.ops l) (λe t df g=>e=.norm/\P t df g) t df g:=by rw[x_];simpa using h1
 refine fC _ this ?_;rintro e t df g ⟨rfl,h⟩;exact h2 t df g h
structure Bnd (K:Nat) (m:Causal):Prop where
 r:m.roots.length<=K
 rr:∀x∈m.roots,x.length<=K
 n:m.nodes.length<=K
 f:∀x∈m.nodes,x.frm.length<=K/\x.noise.length<=K/\x.out.length<=K
abbrev Ky:Type:=Nat×Nat
structure BD (K R n:Nat) (V:Ky->AV) (E:Ky->En) (Rt:Nat->List Int) (c:Nat->Int) (F:Nat->Nat->List Int):Prop where
 r:∀i,i<R->E (0,i)=.sl 1 ((Rt i).map ci)/\(Rt i).length<=K
 f:∀q i,1<=q->q<=3->i<n->E (q,i)=.sl 1 ((F q i).map ci)/\(F q i).length<=K
 rs:E (4,0)=.sl 1 ((List.range R).map λi=>[V (0,i)])
 ns:E (4,1)=.sl 4 ((List.range n).map λi=>[.int .i64 (c i),V (1,i),V (2,i),V (3,i)])
structure TI (g:G) (q:Nat) (m:Causal) (k1 k2 act u1 u2 u3:AV) (A B W:List Int):Prop where
 a1:g.h.get 1=.cells 1 [[act]] 0 false false
 a2:g.h.get 2=.cells 3 [[.nils,.nils,.nils]] 0 false false
 a4:g.h.get 4=.cells 4 [[.int .i64 m.grain,k1,k2,.int .i64 (S.bO m)]] 0 false false
 bq:g.h.get q=.cells 3 [[u1,u2,u3]] 0 false false
 o1:Own g 5 u1 1 (A.map ci)
 o2:Own g 5 u2 1 (B.map ci)
 o3:Own g 5 u3 1 (W.map ci)
 q5:5<=q/\q<g.nx
 n1:∀i,vid u1=some i->i≠q/\vid u2≠some i/\vid u3≠some i
 n2:∀i,vid u2=some i->i≠q/\vid u3≠some i
 n3:∀i,vid u3=some i->i≠q
section
variable {g g':G}{q:Nat}{m:Causal}{k1 k2 act u1 u2 u3:AV}{A B W:List Int}
end
end
end Hx
end
section
namespace Hx
open Go
noncomputable section
theorem bS {C:Cfg}{d:Nat}{rd:Option Nat}{a b:SC}{Q:QT}{t:T}{df:List ADf}{g:G}{P:PT}(h1:wp C d rd a (λe t df g=>e=.norm/\P t df g) t df g)(h2:∀t df g,P t df g->wp C d rd b Q t df g):wp C d rd (.seq a b) Q t df g:=by rw[iY];refine fC _ h1 ?_;rintro e t df g ⟨rfl,h⟩;exact h2 t df g h
def S.bV (s a:List Int):List Int:=(List.range s.length).map λi=>if a[i]?.getD 0<0 then -1 else s[i]?.getD 0
theorem kT {α:Type}{C:α->Prop}{S:α->VS}{j:Nat}(h:∀a,Snb (S a) j):Snb (λP k h v=>∃a,C a/\S a P k h v) j :=
 ⟨λ{P k hh v n} d r hn=>by
  obtain ⟨a,c,r⟩:=r;obtain ⟨v',e,r'⟩:=(h a).snap d r hn;exact ⟨v',e,a,c,r'⟩,λ{k hh v n} r hn=>by
  obtain ⟨a,c,r⟩:=r;exact (h a).tag r hn⟩
theorem pd:∀{A L:List Nat},A.Nodup->(∀v∈A,v∈L)->A.length<=L.length
 | [],_,_,_=>Nat.zero_le _
 | a::A,L,hA,h=>by rw[List.nodup_cons] at hA;have ha:=h a (by simp);have:=pd (A:=A) (L:=L.erase a) hA.2 λv hv=>(List.mem_erase_of_ne (λe=>hA.1 (by rw[<-e];exact hv))).2 (h v (by simp[hv]));rw[List.length_erase_of_mem ha] at this;have:=List.length_pos_of_mem ha;simp only[List.length_cons];omega
def Ord (p:List Nat)(L:List Nat):Prop:=(∀v,v<p.length->v∈L)/\∀(i v:Nat),L[i]?=some v->v<p.length/\∀q,(Par p v).testBit q=true->q∈L.take i
def CE (p:List Nat)(L:List Nat):Prop:=L.Nodup/\∀(i v:Nat),L[i]?=some v->v<p.length/\∀q,(Par p v).testBit q=true->q∈L.take i
theorem Fz {p L:List Nat}(h:CE p L):L.length<=p.length:=by
 have:=pd (L:=List.range p.length) h.1 λv hv=>by obtain ⟨i,hi,rfl⟩:=List.mem_iff_getElem.1 hv;exact List.mem_range.2 (h.2 i _ (List.getElem?_eq_getElem hi)).1
 simpa using this
theorem Dq {p L:List Nat}(h:CE p L){v:Nat}(hv:v ∉ L)(hl:v<p.length)(hp:∀q,(Par p v).testBit q=true->q∈L):CE p (L++[v]):=by
 refine ⟨?_,λi u hu=>?_⟩
 ·rw[List.nodup_append];exact ⟨h.1,by simp,λa ha b hb=>by simp at hb;subst hb;exact λe=>hv (e ▸ ha)⟩
 ·rcases Nat.lt_or_ge i L.length with hi | hi
  ·rw[List.getElem?_append_left hi] at hu;obtain ⟨h1,h2⟩:=h.2 i u hu;exact ⟨h1,λq hq=>by rw[List.take_append_of_le_length (by omega)];exact h2 q hq⟩
  ·rw[List.getElem?_append_right hi] at hu;have:i=L.length:=by have:=(List.getElem?_eq_some_iff.1 hu).1;simp at this;omega
   subst this;simp at hu;subst hu;exact ⟨hl,λq hq=>by rw[List.take_left];exact hp q hq⟩
theorem Dp {p L:List Nat}(h:CE p L)(hl:p.length<=L.length):Ord p L:=by
 refine ⟨λv hv=>?_,h.2⟩
 by_cases hm:v∈L
 ·exact hm
 ·have:=pd (A:=v::L) (L:=List.range p.length) (List.nodup_cons.2 ⟨hm,h.1⟩) λu hu=>by
   rcases List.mem_cons.1 hu with rfl | hu
   ·exact List.mem_range.2 hv
   ·obtain ⟨i,hi,rfl⟩:=List.mem_iff_getElem.1 hu;exact List.mem_range.2 (h.2 i _ (List.getElem?_eq_getElem hi)).1
  simp at this;omega
theorem G3 {p L:List Nat}(h:CE p L)(hl:L.length<p.length):∃v,v<p.length/\v ∉ L:=by
 by_cases hh:∃v,v<p.length/\v ∉ L
 ·exact hh
 ·exfalso;have:=pd (A:=List.range p.length) (L:=L) List.nodup_range λv hv=>by
   by_cases h':v∈L
   ·exact h'
   ·exact absurd ⟨v,List.mem_range.1 hv,h'⟩ hh
  simp at this;omega
def Ii (D:Nat)(L:List Nat):Prop:=D<18446744073709551616/\∀v,D.testBit v=true↔v∈L
theorem DF {D:Nat}{L:List Nat}(h:Ii D L){v:Nat}(hv:v<64):Ii (D ||| S.ap v) (L++[v]):=by
 refine ⟨B_ h.1 (iH v),λu=>?_⟩;rw[oD,tD hv,Bool.or_eq_true,h.2,decide_eq_true_eq,List.mem_append,List.mem_singleton];constructor
 ·rintro (h | h)
  ·exact .inl h
  ·exact .inr h.symm
 ·rintro (h | h)
  ·exact .inl h
  ·exact .inr h.symm
theorem HN {g g':G}(hn:g.nx<=g'.nx)(h:∀i,i<g.nx->g'.h.get i=g.h.get i):Fr g g':=⟨hn,h⟩
theorem oR {C:Cfg}{d:Nat}{rd:Option Nat}{body:SC}{c ti k B b:Nat}{Q:QT}{m:Nat}{lim:Int}(hlim:lim=(m:Int))(hm:m<9223372036854775808)(J:Nat->PT){t:T}{df:List ADf}{g:G}
  (h0:J 0 t df g) (hi:tat t ti=.int .i64 0) (hc:c≠ti/\b≠B)
  (hJ:∀j t df g v s,s=c\/s=ti\/s=k->J j t df g->J j (eG t s v) df g)
  (step:∀j t df g,j<m->J j t df g->tat t ti=.int .i64 (j:Int)->wp C d rd body (kR (λt df g=>J (j+1) t df g/\tat t ti=.int .i64 (j:Int)) b Q) t df g)
  (fin:∀t df g,J m t df g->Q (.exit B) t df g) :
  wpL (wp C d rd (.seq (.ops [o c (.bin .lss (.t ti) (.k (.int .i64 lim)))]) (.seq (.cond (.t c) .skip (.exit B)) (.seq (.blk b body) (.ops [o k (.bin .add (.t ti) (.k (.int .i64 1))),o ti (.mv (.t k))]))))) Q t df g:=by
 subst hlim;obtain ⟨c1,c5⟩:=hc;refine r_ (λn t df g=>∃j:Nat,n=m - j/\j<=m/\J j t df g/\tat t ti=.int .i64 (j:Int)) m ⟨0,by omega,by omega,h0,hi⟩ ?_;rintro n t df g ⟨j,rfl,hj,hjj,h1⟩;simp only[sz,simprocAttr,h1];refine ⟨λhq=>?_,λhq=>?_⟩
 ·have hlt:j<m:=by simpa using hq
  simp only[sx];refine fC _ (step j _ df g hlt (hJ _ _ _ _ _ _ (.inl rfl) hjj) (by simp only[jZ];rw[if_neg (Ne.symm c1),h1])) λe t df g h=>?_;have key:J (j+1) t df g/\tat t ti=.int .i64 (j:Int)->wp C d rd (.ops [o k (.bin .add (.t ti) (.k (.int .i64 1))),o ti (.mv (.t k))])
    (kL (λn t df g=>∃j:Nat,n=m - j/\j<=m/\J j t df g/\tat t ti=.int .i64 (j:Int)) (m - j) Q) t df g:=by
   rintro ⟨a1,a2⟩;simp only[sz,simprocAttr,a2];refine ⟨_,?_,j+1,rfl,by omega,hJ _ _ _ _ _ _ (.inr (.inl rfl)) (hJ _ _ _ _ _ _ (.inr (.inr rfl)) a1),?_⟩
   ·omega
   ·rw[aB (by omega) (by omega)];rfl
  cases e with
  | norm=>exact key h
  | ret=>exact h
  | exit x =>
   rw[mG] at h;rw[o8]
   split at h
   ·rename_i e;rw[if_pos e];exact key h
   ·rename_i e;rw[if_neg e];exact h
 ·have:j=m:=by simp at hq;omega
  subst this;simp only[sx];exact fin _ _ _ (hJ _ _ _ _ _ _ (.inl rfl) hjj)
section
variable {m:Causal}{c1 c2 l w c9 v35 ls v48:AV}{al:List Int}{hid kk:Int}{p:Nat}
end
end
end Hx
end
section
namespace Hx
open Go
noncomputable section
theorem Ax (l:List Int)(j:Nat)(x:Int):(l.map ci).set j (ci x)=(l.set j x).map ci:=by rw[List.map_set]
theorem Hm {x y:Nat}(hy:0<y):bD .rem (.int .i64 (x:Int)) (.int .i64 (y:Int))=.val (.int .i64 ((x % y:Nat):Int)):=by rw[cH .i64 (Int.natCast_nonneg x) (by omega),<-Int.natCast_emod]
theorem Hh {x y:Nat}(hx:x<9223372036854775808)(hy:0<y):bD .quo (.int .i64 (x:Int)) (.int .i64 (y:Int))=.val (.int .i64 ((x / y:Nat):Int)):=by have hle:x / y<=x:=Nat.div_le_self _ _;rw[Bj .i64 (Int.natCast_nonneg x) (by omega),<-Int.natCast_ediv];generalize x / y=z at hle;rw[aB (by omega) (by omega)]
def S.bc:List Int->Int
 | []=>0
 | x::l=>x+10000*S.bc l
structure S.tI (bl:List Int) (n i:Nat) (V ai:Int) (k:Nat) (c:Int) (L:List Int):Prop where
 len:L.length=n
 rng:∀x∈L,0<=x/\x<10000
 zer:∀j,i+bl.length<=j->i+k<=j->L[j]?.getD 0=0
 kle:k<=bl.length+1
 c0:0<=c
 c1:c<10000
 ce:k=bl.length+1->c=0
 cs:k=0->c=0
 eq:S.bc L+c*10000 ^ (i+k)=V+ai*10000 ^ i*S.bc (bl.take k)
structure S.tO (al bl:List Int) (i:Nat) (L:List Int):Prop where
 len:L.length=al.length+bl.length
 rng:∀x∈L,0<=x/\x<10000
 zer:∀j,i+bl.length<=j->L[j]?.getD 0=0
 eq:S.bc L=S.bc (al.take i)*S.bc bl
structure S.mI (al bl:List Int) (i:Nat) (r:Int) (L:List Int):Prop where
 len:L.length=i
 rng:∀x∈L,0<=x/\x<10000
 r01:r=0\/r=1
 eq:S.bc L=S.bc (al.take i) - S.bc (bl.take i)+r*10000 ^ i
theorem D7 {x y:Int}(h0:0<=x)(h1:x<9223372036854775808)(hy:0<y):bD .quo (.int .i64 x) (.int .i64 y)=.val (.int .i64 (x / y)):=by obtain ⟨n,rfl⟩:=Int.eq_ofNat_of_zero_le h0;obtain ⟨m,rfl⟩:=Int.eq_ofNat_of_zero_le (by omega:0<=y);have:=Hh (x:=n) (y:=m) (by omega) (by omega);rw[this,Int.natCast_ediv]
structure S.qI (x b n:Nat) (i:Nat) (L:List Int):Prop where
 len:L.length=n
 rng:∀z∈L,0<=z/\z<10000
 eq:S.bc (L.drop i)=((x / 10000 ^ i / b:Nat):Int)
theorem SlR.wd {α:Type} [Rp α]{P P':Nat->Prop}{k:Nat}{h h':H}{l:List α}{v:AV}(r:SlR P k h l v)(hf:∀i,P i->P' i/\h'.get i=h.get i):SlR P' k h' l v:=by obtain ⟨w,hw,q⟩:=Rp.mono (k':=k) (P':=P') (h':=h') (show Rp.rp P k h l [v] from ⟨v,rfl,r⟩) hf (Nat.le_refl _);injection hw with hw;subst hw;exact q
abbrev P3:Nat->Prop:=λi=>3<=i
structure HS (m:Causal) (c1 c2 la lb lc:AV) (p q:Nat) (gb g:G):Prop where
 fr:Fr gb g
 mp:g.h.get p=.cells 3 [[.int .i64 m.grain,c1,c2]] 0 false false
 ml:g.h.get q=.cells 3 [[la,lb,lc]] 0 false false
 pn:p<gb.nx
 q0:gb.nx<=q
 qn:q<g.nx
section
variable {m:Causal}{c1 c2 la lb lc w c28 vi c90 vj:AV}{A B Z:List Int}{p q:Nat}
end
end
end Hx
end
end
section
namespace Hx
open Go
section
variable {p:List Nat}
theorem ww:CD p 0:=⟨λv _ hb=>by simp at hb,λv _ hb=>by simp at hb⟩
theorem yS {q:Nat}(ih:CD p q){j:Nat}(hj:j<64)(hd:Sub (Par p j) q):CD p (q ||| S.ap j):=by
 refine ⟨λv hv hb=>?_,λv hv hb=>?_⟩
 ·intro u hu;rw[oD,tD hj,Bool.or_eq_true,decide_eq_true_eq] at hb;rw[oD,Bool.or_eq_true];rcases hb with hb | hb
  ·exact .inl (ih.1 v hv hb u hu)
  ·subst hb;exact .inl (hd u hu)
 ·rw[oD,tD hj,Bool.or_eq_true,decide_eq_true_eq] at hb;cases hq:q.testBit v
  ·rw[hq] at hb;simp at hb;subst hb;rw[<-Bool.not_eq_true];intro hu;have:=A5 ih.1 hd p.length j hu;rw[hq] at this;cases this
  ·exact ih.2 v hv hq
theorem qq {q:Nat}(h:CD p q)(hf:∀v,v<p.length->q.testBit v=true):S.aN p=true :=
 tz.2 λv hv=>h.2 v hv (hf v hv)
theorem wY (hp:∀x∈p,x<2 ^ p.length)(h:S.aN p=true){T:Nat}(hst:∀v,v<p.length->T.testBit v=false->¬Sub (Par p v) T):∀v,v<p.length->T.testBit v=true:=by
 rw[tz] at h;have none:∀r v,v<p.length->T.testBit v=false->S.up p (Par p v) p.length=r->False:=by
  intro r
  induction r using Nat.strongRecOn with
  | _ r ih =>
   intro v hv hb hr;have hns:=hst v hv hb;have:∃u,(Par p v).testBit u=true/\T.testBit u=false:=by
    apply Classical.byContradiction;intro hno;apply hns;intro u hu;cases hc:T.testBit u
    ·exact absurd ⟨u,hu,hc⟩ hno
    ·rfl
   obtain ⟨u,hu,hub⟩:=this;have hul:u<p.length:=Ga (AF hp) hu;have hcl:=DS hp (s:=Par p v) (AF hp);have hin:(S.up p (Par p v) p.length).testBit u=true:=xZ _ u hu;have hsub:Sub (S.up p (Par p u) p.length) (S.up p (Par p v) p.length):=A5 hcl (hcl u hul hin) _;have hlt:S.up p (Par p u) p.length<S.up p (Par p v) p.length:=by refine Nat.lt_of_le_of_ne (IK hsub) λe=>?_;have:=h u hul;rw[e,hin] at this;cases this
   exact ih _ (by omega) u hul hub rfl
 intro v hv;cases hc:T.testBit v
 ·exact (none _ v hv hc rfl).elim
 ·rfl
end
end Hx
end
section
namespace Hx
open Go
theorem zq:∀a b:List Int,S.ah (a++b)=S.ah a*S.ah b
 | [],b=>by simp[S.ah]
 | x::a,b=>by rw[List.cons_append,rO,rO,zq a b,Int.mul_assoc]
end Hx
end
section
namespace Hx
open Go
def S.aa (n:Net):List Int:=n.nodes.map (·.card)
def S.ak (cs ps:List Int):List Int:=ps.map λp=>cs[p.toNat]?.getD 0
def S.af (n:Net):List Nat:=n.nodes.map λx=>S.ae x.parents
def S.aA (gr card:Int)(r:List Int):Bool:=decide ((r.length:Int)=card)&&r.all (λx=>decide (0<=x)&&decide (x<=gr))&&decide (r.sum=gr)
def S.aT (k:Int)(x:Node):Bool:=decide (1<=x.card)&&decide (x.card<=4)&&S.aQ x.parents k
def S.bg (n:Net)(x:Node):Bool:=decide ((x.rows.length:Int)=S.ah (S.ak (S.aa n) x.parents))&&x.rows.all (S.aA n.grain x.card)
def S.au (n:Net):Bool:=decide (1<=n.grain)&&decide (n.grain<=60)&&decide (1<=n.nodes.length)&&decide (n.nodes.length<=8)&&n.nodes.all (S.aT n.nodes.length)&&decide (S.ah (S.aa n)<=1024)&&S.aN (S.af n)&&n.nodes.all (S.bg n)
structure NR (n:Net):Prop where
 g1:1<=n.grain
 g2:n.grain<=60
 l1:1<=n.nodes.length
 l2:n.nodes.length<=8
 card:∀x∈n.nodes,1<=x.card/\x.card<=4
 places:∀x∈n.nodes,S.aQ x.parents n.nodes.length=true
 worlds:S.ah (S.aa n)<=1024
 acyc:S.aN (S.af n)=true
 rows:∀x∈n.nodes,(x.rows.length:Int)=S.ah (S.ak (S.aa n) x.parents)
 row:∀x∈n.nodes,∀r∈x.rows,(r.length:Int)=x.card/\(∀y∈r,0<=y/\y<=n.grain)/\r.sum=n.grain
theorem ed {n:Net}:S.au n=true↔NR n:=by
 simp only[S.au,S.aT,S.bg,S.aA,Bool.and_eq_true,decide_eq_true_eq,List.all_eq_true];constructor
 ·rintro ⟨⟨⟨⟨⟨⟨⟨a,b⟩,c⟩,d⟩,e⟩,f⟩,g⟩,h⟩;exact ⟨a,b,c,d,λx hx=>(e x hx).1,λx hx=>(e x hx).2,f,g,λx hx=>(h x hx).1,λx hx r hr=>⟨((h x hx).2 r hr).1.1,((h x hx).2 r hr).1.2,((h x hx).2 r hr).2⟩⟩
 ·rintro ⟨a,b,c,d,e1,e2,f,g,h1,h2⟩;exact ⟨⟨⟨⟨⟨⟨⟨a,b⟩,c⟩,d⟩,λx hx=>⟨e1 x hx,e2 x hx⟩⟩,f⟩,g⟩,λx hx=>⟨h1 x hx,λr hr=>⟨⟨(h2 x hx r hr).1,(h2 x hx r hr).2.1⟩,(h2 x hx r hr).2.2⟩⟩⟩
theorem eD {l:List Int}{k:Int}(h:S.aQ l k=true):∀x∈l,0<=x/\x<k:=by
 intro x hx;obtain ⟨i,hi,he⟩:=List.mem_iff_getElem.1 hx;have:=List.all_eq_true.1 h i (List.mem_range.2 hi);have e:l[i]?.getD 0=x:=by rw[List.getElem?_eq_getElem hi,he];rfl
 simp only[S.aW,Bool.and_eq_true,decide_eq_true_eq,e] at this;omega
theorem uB {l:List Int}{k:Int}(h:S.aQ l k=true){i:Nat}{x y:Int}(hx:l[i]?=some x)(hy:l[i+1]?=some y):x<y:=by have hi:=(List.getElem?_eq_some_iff.1 hy).1;have:=List.all_eq_true.1 h (i+1) (List.mem_range.2 hi);simp only[S.aW,Bool.and_eq_true,decide_eq_true_eq,hy,Option.getD_some,Nat.add_sub_cancel,hx] at this;simp at this;omega
theorem uC {l:List Int}{k:Int}(h:S.aQ l k=true)(hk:0<=k):(l.length:Int)<=k:=by
 have key:∀(i:Nat) (x:Int),l[i]?=some x->(i:Int)<=x:=by
  intro i
  induction i with
  | zero=>intro x hx;have:=eD h x (List.mem_of_getElem? hx);omega
  | succ i ih =>
   intro x hx;have hi:=(List.getElem?_eq_some_iff.1 hx).1;have h1:=ih l[i] (List.getElem?_eq_getElem (by omega));have:=uB h (List.getElem?_eq_getElem (show i<l.length by omega)) hx;omega
 by_cases hl:l.length=0
 ·omega
 ·have h1:=key (l.length - 1) l[l.length - 1] (List.getElem?_eq_getElem (by omega));have h2:=eD h _ (List.getElem_mem (show l.length - 1<l.length by omega));omega
theorem dg (n:Net):(S.aa n).length=n.nodes.length:=by simp[S.aa]
theorem qX {cs ps:List Int}(hc:∀c∈cs,1<=c/\c<=4)(hp:∀p∈ps,0<=p/\p<cs.length):∀c∈S.ak cs ps,1<=c/\c<=4:=λc h=>by obtain ⟨p,h1,rfl⟩:=List.mem_map.1 h;have h2:=hp p h1;rw[List.getElem?_eq_getElem (by omega),Option.getD_some];exact hc _ (List.getElem_mem _)
theorem AG (cs a b:List Int):S.ak cs (a++b)=S.ak cs a++S.ak cs b:=by simp[S.ak]
def S.bK (n:Net)(vals:List Int)(v:Nat):Int:=match n.nodes[v]? with
 | none=>1
 | some x=>(x.rows[(S.bu (S.ak (S.aa n) x.parents) (S.ak vals x.parents)).toNat]?.getD [])[(vals[v]?.getD 0).toNat]?.getD 0
end Hx
end
section
namespace Hx
open Go
section
variable {b card:Nat}
def S.bA (b card p:Nat):Nat:=p / (b*card)*b+p % b
def S.bB (b card p:Nat):Nat:=p / b % card
def S.bM (rows:List (List Int))(b card t:Nat):List Int:=(List.range (rows.length*card)).map λp=>if S.bA b card p*card+S.bB b card p<t then (rows[S.bA b card p]?.getD [])[S.bB b card p]?.getD 0 else 0
def S.bN (rows:List (List Int))(b card:Nat):List Int:=(List.range (rows.length*card)).map λp=>(rows[S.bA b card p]?.getD [])[S.bB b card p]?.getD 0
end
def S.bE (ps:List Int)(k:Nat)(v:Int):List Int:=ps.take k++v::ps.drop k
end Hx
end
section
namespace Hx
open Go
noncomputable section
abbrev wX:Type:=UInt8×UInt8×List UInt8
abbrev pN:Type:=UInt8×List wX×List UInt8
abbrev i4:Type:=UInt8×UInt8×UInt8×Int
theorem wN {P:Nat->Prop}{k:Nat}{h:H}{x:wX}{cs:List AV}:Rp.rp P k h x cs↔∃a,cs=[u8v x.1,u8v x.2.1,a]/\SlR P k h x.2.2 a:=by
 constructor
 ·rintro ⟨c1,c2,rfl,h1,c3,c4,rfl,h2,⟨a,rfl,h4⟩⟩;rw[dc.1 h1,dc.1 h2];exact ⟨a,rfl,h4⟩
 ·rintro ⟨a,rfl,h4⟩;exact ⟨[_],[_,a],rfl,dc.2 rfl,[_],[a],rfl,dc.2 rfl,⟨a,rfl,h4⟩⟩
theorem rQ {P:Nat->Prop}{k:Nat}{h:H}{x:pN}{cs:List AV}:Rp.rp P k h x cs↔∃a b,cs=[u8v x.1,a,b]/\SlR P k h x.2.1 a/\SlR P k h x.2.2 b:=by
 constructor
 ·rintro ⟨c1,c2,rfl,h1,c3,c4,rfl,⟨a,rfl,ha⟩,⟨b,rfl,hb⟩⟩;rw[dc.1 h1];exact ⟨a,b,rfl,ha,hb⟩
 ·rintro ⟨a,b,rfl,ha,hb⟩;exact ⟨[_],[a,b],rfl,dc.2 rfl,[a],[b],rfl,⟨a,rfl,ha⟩,⟨b,rfl,hb⟩⟩
theorem uF {P:Nat->Prop}{k:Nat}{h:H}{x:i4}{cs:List AV}:Rp.rp P k h x cs↔cs=[u8v x.1,u8v x.2.1,u8v x.2.2.1,.int .i64 x.2.2.2]:=by
 constructor
 ·rintro ⟨c1,c2,rfl,h1,c3,c4,rfl,h2,c5,c6,rfl,h3,h4⟩;rw[dc.1 h1,dc.1 h2,dc.1 h3,bj.1 h4];rfl
 ·rintro rfl;exact ⟨[_],[_,_,_],rfl,dc.2 rfl,[_],[_,_],rfl,dc.2 rfl,[_],[_],rfl,dc.2 rfl,bj.2 rfl⟩
theorem IC {d k k2:Nat}{g:G}{P P2:Nat->Prop}{v w:AV}{l p:List Int}(hd:0<d)(hv:SlR P k g.h l v)(hw:SlR P2 k2 g.h p w)(hp:p.length<1073741824)(hin:∀x∈p,0<=x/\x<l.length) :
  ∃r,ay C0 d N.aR [v,w] g=.val r/\IT 0 (S.ak l p) r:=by
 obtain ⟨v',e1,r1⟩:=dF hv d;obtain ⟨w',e2,r2⟩:=dF hw d;rw[uW];refine bK yH (xs:=[v',w']) (by simp only[aJ,e1,e2]) (by simp[pY]) (bL _) (by decide) hd ?_;simp only[sz,simprocAttr,pY];have n2:=λg=>(r2 .nil).len g;have ra:∀h',ak h' 1 v'=some (l.map ci):=λh'=>(r1 h').ints;have rb:∀h',ak h' 1 w'=some (p.map ci):=λh'=>(r2 h').ints;refine pt (v:=w') (m:=p.length) (by omega) n2 (λj t df g=>df=[]/\St t [(0,v')]/\∃u,tat t 5=u/\Own g 0 u 1 ((S.ak l (p.take j)).map ci)) ⟨rfl,by simp[St,sx],_,rfl,.inl ⟨by simp[sx],by simp[S.ak]⟩⟩ (by simp[sx]) (by simp[sx]) (by decide)
  (by rintro j t df g v s (rfl | rfl | rfl | rfl | rfl | rfl | rfl)<;>simp[sx,St]) ?_ ?_
 ·rintro j t df g1 hj ⟨rfl,⟨h0,-⟩,u,h5,hu⟩ h6 h1;obtain ⟨x,hx,htk,hm⟩:=aq hj;obtain ⟨hx0,hxl⟩:=hin x hm;obtain ⟨n,rfl⟩:=Int.eq_ofNat_of_zero_le hx0;have hn:n<l.length:=by omega
  simp only[sz,simprocAttr,ra,rb,h0,h1,h5,h6,hx,hj,hn,List.length_map,List.getElem?_map,Option.map_some,ci,List.getElem?_eq_getElem hn];refine aA (new:=[ci l[n]]) (hu.step (Fr.new _ _)) (by simp[sx,sy,ci]) (by simp) (by simp[aP,S.ak];omega) λv2 g2 hv2 n2 f2 _ l2=>?_;simp only[sz,simprocAttr,h0,h1,h6,St];refine ⟨_,rfl,?_⟩;rw[htk];simpa [hn,ci,S.ak] using hv2
 ·rintro t df g1 ⟨rfl,⟨h0,-⟩,u,h5,hu⟩ -;rw[List.take_length] at hu;simp only[sz,simprocAttr,pH,h5];exact ⟨_,hu.ints (by simp[S.ak];omega)⟩
theorem Du {d k:Nat}{g:G}{P:Nat->Prop}{v:AV}{n:Net}(hd:0<d)(hm:Agg n P k g.h v)(hn:n.nodes.length<1073741824) :
  ∃r,ay C0 d N.aV [v] g=.val r/\IT 0 (S.aa n) r:=by
 obtain ⟨v',e,cs,rfl,hc⟩:=nL (gF n) (by decide) d hm;obtain ⟨b,rfl,hN⟩:=eU.1 hc;obtain ⟨rows,r1,r2,r3,r4⟩:=hN.all;have r1:∀h',ak h' 3 b=some rows:=r1;rw[rF];refine bK tX (xs:=[.agg [.int .i64 n.grain,b]]) (by simp only[aJ,e]) (by simp[lw]) (bL _) (by decide) hd ?_;simp only[sz,simprocAttr,lw,m_,lP];refine aV n.nodes.length (by omega) (λj t df g=>df=[]/\tat t 1=.hptr 0 0 0 0/\g.h.get 0=.cells 2 [[.int .i64 n.grain,b]] 0 false false/\1<=g.nx/\∃u,tat t 3=u/\Own g 1 u 1 (((n.nodes.take j).map (·.card)).map ci))
  ⟨rfl,by simp[sx],by simp[sx],by simp[sx],_,rfl,.inl ⟨by simp[sx],rfl⟩⟩ (by simp[sx]) (by decide)
  (by rintro j t df g v s (rfl | rfl | rfl)<;>simp[sx]) ?_ ?_ ?_
 ·rintro j t df g hj ⟨rfl,h1,hg,hnx,u,h3,hu⟩ h4;simp only[sz,simprocAttr,h1,h4,hg,hN.len];exact ⟨hnx,u,h3,hu⟩
 ·rintro j t df g hj ⟨rfl,h1,hg,hnx,u,h3,hu⟩ h4;obtain ⟨x,hx,htk,hm⟩:=aq hj;obtain ⟨row,q1,q2⟩:=r3 j x hx;obtain ⟨a',b',rfl,ha',-⟩:=dy.1 q2;have hlt:j<rows.length:=by omega
  have hry:=r4 (by omega);simp only[sz,simprocAttr,h1,h3,h4,hg,r1,hlt,q1,hry];refine aA (new:=[ci x.card]) (hu.step (Fr.new _ _)) (by simp[sx,sy,ci]) (by simp) (by simp[aP];omega) λv2 g2 hv2 n2 f2 _ l2=>?_;simp only[sz,simprocAttr,h1,h4];refine ⟨?_,?_,_,rfl,?_⟩
  ·rw[f2 0 (by simp) (λe=>by have:=(hu.lt e).1;omega),G.new_h,aD _ _ _ (by omega),hg]
  ·simp at n2;omega
  ·rw[htk];simpa [ci] using hv2
 ·rintro t df g ⟨rfl,h1,hg,hnx,u,h3,hu⟩;rw[List.take_length] at hu;simp only[sz,simprocAttr,lQ,h3];exact ⟨_,hu.ints (by simp;omega)⟩
theorem zt {d k:Nat}{g:G}{P:Nat->Prop}{v:AV}{n:Net}(hd:0<d)(hm:Agg n P k g.h v)(hn:n.nodes.length<1073741824)(hp:∀x∈n.nodes,∀y∈x.parents,0<=y/\y<18446744073709551616) :
  ∃r,ay C0 d N.aC [v] g=.val r/\UT 0 (S.af n) r:=by
 obtain ⟨v',e,cs,rfl,hc⟩:=nL (gF n) (by decide) d hm;obtain ⟨b,rfl,hN⟩:=eU.1 hc;obtain ⟨rows,r1,r2,r3,r4⟩:=hN.all;have r1:∀h',ak h' 3 b=some rows:=r1;rw[nB];refine bK pA (xs:=[.agg [.int .i64 n.grain,b]]) (by simp only[aJ,e]) (by simp[fJ]) (bL _) (by decide) hd ?_;simp only[sz,simprocAttr,fJ,iy];refine aV n.nodes.length (by omega) (λj t df g=>df=[]/\tat t 1=.hptr 0 0 0 0/\g.h.get 0=.cells 2 [[.int .i64 n.grain,b]] 0 false false/\1<=g.nx/\∃u,tat t 3=u/\Own g 1 u 1 (((n.nodes.take j).map λx=>S.ae x.parents).map cu))
  ⟨rfl,by simp[sx],by simp[sx],by simp[sx],_,rfl,.inl ⟨by simp[sx],rfl⟩⟩ (by simp[sx]) (by decide)
  (by rintro j t df g v s (rfl | rfl | rfl)<;>simp[sx]) ?_ ?_ ?_
 ·rintro j t df g hj ⟨rfl,h1,hg,hnx,u,h3,hu⟩ h4;simp only[sz,simprocAttr,h1,h4,hg,hN.len];exact ⟨hnx,u,h3,hu⟩
 ·rintro j t df g hj ⟨rfl,h1,hg,hnx,u,h3,hu⟩ h4;obtain ⟨x,hx,htk,hm⟩:=aq hj;obtain ⟨row,q1,q2⟩:=r3 j x hx;obtain ⟨a',b',rfl,ha',-⟩:=dy.1 q2;have hlt:j<rows.length:=by omega
  have hry:=r4 (by omega);simp only[sz,simprocAttr];refine aV x.parents.length ha'.1 (λi t df g'=>df=[]/\St t [(1,.hptr 0 0 0 0),(4,.int .i64 j),(3,u),(5,.int .u64 (S.ae (x.parents.take i):Int))]/\g'=g)
   ⟨rfl,by simp[sx,St,S.ae,h1,h3,h4],rfl⟩ (by simp[sx]) (by decide)
   (by rintro j t df g v s (rfl | rfl | rfl)<;>simp[sx,St]) ?_ ?_ ?_
  ·rintro i t df g' hi ⟨rfl,⟨h1,h4,h3,h5,-⟩,rfl⟩ h6;simp only[sz,simprocAttr,h1,h3,h4,h5,h6,hg,r1,hlt,q1,hry,ha'.len,St]
  ·rintro i t df g' hi ⟨rfl,⟨h1,h4,h3,h5,-⟩,rfl⟩ h6;obtain ⟨y,hy,htk2,hm2⟩:=aq hi;obtain ⟨hy0,hy1⟩:=hp x hm y hm2;obtain ⟨n,rfl⟩:=Int.eq_ofNat_of_zero_le hy0;simp only[sz,simprocAttr,h1,h3,h4,h5,h6,hg,r1,hlt,q1,hry,(ha'.tree (h':=g'.h) (Nat.le_refl _)).ints,hi,hy,List.length_map,List.getElem?_map,Option.map_some,ci,mU hy0 hy1,dM,kW _ _ (dL _) (iH _),St];rw[htk2,pc];rfl
  ·rintro t df g' ⟨rfl,⟨h1,h4,h3,h5,-⟩,rfl⟩;rw[List.take_length] at h5;simp only[sz,simprocAttr,gO,h3,h5];refine aA (new:=[cu (S.ae x.parents)]) (hu.step (Fr.new _ _)) (by simp[sx,sy,cu]) (by simp) (by simp[aP];omega) λv2 g2 hv2 n2 f2 _ l2=>?_;simp only[sz,simprocAttr,h1,h4];refine ⟨?_,?_,_,rfl,?_⟩
   ·rw[f2 0 (by simp) (λe=>by have:=(hu.lt e).1;omega),G.new_h,aD _ _ _ (by omega),hg]
   ·simp at n2;omega
   ·rw[htk];simpa [cu] using hv2
 ·rintro t df g ⟨rfl,h1,hg,hnx,u,h3,hu⟩;rw[List.take_length] at hu;simp only[sz,simprocAttr,gP,h3];exact ⟨_,hu.nats (by simp;omega) (by simp only[List.mem_map];rintro x ⟨y,-,rfl⟩;exact dL _)⟩
theorem wJ {d k:Nat}{g:G}{P:Nat->Prop}{v:AV}{n:Net}{i:Nat}{x:Node}(hd:0<d)(hm:Agg n P k g.h v)(hn:n.nodes.length<1073741824)(hx:n.nodes[i]?=some x)(hl:x.parents.length<1073741824)(hin:∀p∈x.parents,0<=p/\p<n.nodes.length) :
  ∃r,ay C0 d N.aB [v,.int .i64 (i:Int)] g=.val r/\IT 0 (S.ak (S.aa n) x.parents) r:=by
 obtain ⟨v',e,cs,rfl,hc⟩:=nL (gF n) (by decide) d hm;have hc':=hc;obtain ⟨b,rfl,hN⟩:=eU.1 hc;have hm':∀h,Agg n NoP (max k d) h (.agg [.int .i64 n.grain,b]):=λh=>⟨_,rfl,Rp.tree hc' (Nat.le_refl _)⟩;obtain ⟨rows,r1,r2,r3,r4⟩:=hN.all;have r1:∀h',ak h' 3 b=some rows:=r1;obtain ⟨row,q1,q2⟩:=r3 i x hx;obtain ⟨a',b',rfl,ha',-⟩:=dy.1 q2;have hil:=(List.getElem?_eq_some_iff.1 hx).1;have hlt:i<rows.length:=by omega
 have hry:=r4 (by omega);rw[mq];refine bK nS (xs:=[.agg [.int .i64 n.grain,b],.int .i64 (i:Int)]) (by simp only[aJ,e,gc 0]) (by simp[eR]) (bL _) (by decide) hd ?_;simp only[sz,simprocAttr,eR,gN];refine cF (Du (Nat.succ_pos d) (hm' _) hn) λrc hrc=>?_;have hat:=λg=>IC (d:=d+1) (g:=g) (P:=NoP) (P2:=NoP) (k:=0) (k2:=max k d) (l:=S.aa n) (p:=x.parents) (Nat.succ_pos d) (hrc.sl g.h) (ha'.tree (h':=g.h) (Nat.le_refl _)) hl (λp hp=>by rw[dg];exact hin p hp);simp only[sz,simprocAttr,r1,hlt,q1,hry];refine cF (hat _) λr hr=>?_;simp only[sz,simprocAttr];obtain ⟨w,hw,hs⟩:=hr;exact ⟨_,w,hw,hs.tree (Nat.le_refl _)⟩
theorem zE {d k:Nat}{g:G}{P:Nat->Prop}{v:AV}{l:List Int}(hd:0<d)(hv:SlR P k g.h l v):ay C0 d N.am [v] g=.val (.int .i64 (S.a_ l)):=by have b:=BK hv.ints;have:=Hu hd (Dd hv.ints) (by rw[b];exact hv.1);rwa [b] at this
theorem gy {g:G}{v:AV}{n:Net}(d:Nat)(hm:Agg n NoP 0 g.h v):∃b rows,v=.agg [.int .i64 n.grain,b]/\Hx.snap g.h d aF v=some v/\(∀h,Agg n NoP 0 h v)/\SlR NoP 0 .nil n.nodes b/\(∀h,ak h 3 b=some rows)/\rows.length=n.nodes.length /\
  (∀(i:Nat) (x:Node),n.nodes[i]?=some x->∃pa ra,rows[i]?=some [.int .i64 x.card,pa,ra]/\i<rows.length/\SlR NoP 0 .nil x.parents pa/\SlR NoP 0 .nil x.rows ra)/\(0<n.nodes.length->jU b=true):=by
 have e:=js d hm;obtain ⟨cs,rfl,hc⟩:=hm;have hc':=hc;obtain ⟨b,rfl,hN⟩:=eU.1 hc;have hN:=hN.tree (h':=.nil) (Nat.le_refl _);obtain ⟨rows,r1,r2,r3,r4⟩:=hN.all;refine ⟨b,rows,rfl,e,λh=>⟨_,rfl,Rp.tree hc' (Nat.le_refl _)⟩,hN,r1,r2,λi x hx=>?_,r4⟩;obtain ⟨row,q1,q2⟩:=r3 i x hx;obtain ⟨a',b',rfl,ha',hb'⟩:=dy.1 q2;exact ⟨a',b',q1,by rw[r2];exact (List.getElem?_eq_some_iff.1 hx).1,ha',hb'⟩
theorem Cf {k:Nat}{l:List (List Int)}{b:AV}(hb:SlR NoP k .nil l b):∃rows:List (List AV),(∀h,ak h 1 b=some rows)/\rows.length=l.length/\(∀(i:Nat) (r:List Int),l[i]?=some r->∃z,rows[i]?=some [z]/\i<rows.length/\SlR NoP k .nil r z)/\(0<l.length->jU b=true):=by obtain ⟨rows,r1,r2,r3,r4⟩:=hb.all;refine ⟨rows,r1,r2,λi r hr=>?_,r4⟩;obtain ⟨row,q1,q2⟩:=r3 i r hr;obtain ⟨z,rfl,hz⟩:=eE.1 q2;exact ⟨z,q1,by rw[r2];exact (List.getElem?_eq_some_iff.1 hr).1,hz⟩
section
variable {d:Nat}{b pa ra z:AV}{gr card:Int}{r:List Int}
def LR5 (v:Nat)(q:Nat):List (Nat×AV):=[(1,.hptr 0 0 0 0),(6,.int .i64 (v:Int)),(7,.hptr q 0 0 0)]
structure RJ1 (gr:Int) (r:List Int) (v q i j:Nat) (t:T):Prop where
 st:St t ((8,.int .i64 (i:Int))::LR5 v q)
 s9:tat t 9=.int .i64 (r.take j).sum
 all:∀y∈r.take j,0<=y/\y<=gr
structure RJ4 (gr card:Int) (rws:List (List Int)) (v q j:Nat) (t:T):Prop where
 st:St t (LR5 v q)
 all:∀r∈rws.take j,S.aA gr card r=true
structure RJ0 (n:Net) (b:AV) (j:Nat) (t:T) (g:G):Prop where
 st:St t [(1,.hptr 0 0 0 0),(3,.int .i64 (S.ah ((S.aa n).take j)))]
 hg:g.h.get 0=.cells 2 [[.int .i64 n.grain,b]] 0 false false
 nx:1<=g.nx
 all:∀x∈n.nodes.take j,S.aT n.nodes.length x=true
structure RJ6 (n:Net) (b:AV) (j:Nat) (t:T) (g:G):Prop where
 st:St t [(1,.hptr 0 0 0 0)]
 hg:g.h.get 0=.cells 2 [[.int .i64 n.grain,b]] 0 false false
 nx:1<=g.nx
 all:∀x∈n.nodes.take j,S.bg n x=true
theorem FM {Q:QT}{rr:List (List AV)}{v q i:Nat}{t:T}{g:G}(s1:∀h,ak h 1 ra=some rr)(s2:rr[i]?=some [z])(s3:i<rr.length)(s4:jU ra=true)(hz:SlR NoP 0 .nil r z)(hl:r.length<=4)(hg1:1<=gr/\gr<=60)
  (ht:St t ((8,.int .i64 (i:Int))::LR5 v q)) (h9:tat t 9=.int .i64 0) (h10:tat t 10=.int .i64 0) (e0:g.h.get 0=.cells 2 [[.int .i64 gr,b]] 0 false false) (eq:g.h.get q=.cells 3 [[.int .i64 card,pa,ra]] 0 false false)
  (bad:∀t,(∃y∈r,¬(0<=y/\y<=gr))->tat t 2=.bool false->Q .ret t [] g) (fin:∀t,(∀y∈r,0<=y/\y<=gr)->St t ((8,.int .i64 (i:Int))::LR5 v q)->tat t 9=.int .i64 r.sum->Q (.exit 6) t [] g) :
  wpL (wp C0 d none gV) Q t [] g:=by
 have n1:=λg=>hz.len g;have rz:=λh=>(hz.tree (h':=h) (Nat.le_refl 0)).ints;simp only[gV];refine aV r.length (by omega) (λj t df g'=>df=[]/\g'=g/\RJ1 gr r v q i j t)
  ⟨rfl,rfl,ht,by simp[h9],by simp⟩ h10 (by decide) (by rintro j t df g v s (rfl | rfl | rfl) ⟨a1,a2,⟨b1,b2,b3,b4,-⟩,b5,b6⟩<;>exact ⟨a1,a2,by simp[St,LR5,sx,b1,b2,b3,b4],by simp[sx,b5],b6⟩) ?_ ?_ ?_
 ·rintro j t df g' hj ⟨rfl,rfl,⟨⟨h8,h1,h6,h7,-⟩,h9,ha⟩⟩ h10;simp only[sz,simprocAttr,h7,h8,h10,eq,s1,s2,s3,n1];exact ⟨by simp[St,LR5,sx,h1,h6,h7,h8],by simp[sx,h9],ha⟩
 ·rintro j t df g' hj ⟨rfl,rfl,⟨⟨h8,h1,h6,h7,-⟩,h9,ha⟩⟩ h10;obtain ⟨y,hy,htk,hm⟩:=aq hj;have u1:j<(r.map ci).length:=by simpa using hj
  have u2:(r.map ci)[j]?=some (ci y):=by rw[List.getElem?_map,hy];rfl
  by_cases c1:y<0
  ·simp only[sz,simprocAttr,h7,h8,h10,eq,s1,s2,s3,rz,u1,u2,ci,c1];exact bad _ ⟨y,hm,by omega⟩ (by simp[sx])
  ·by_cases c2:gr<y
   ·simp only[sz,simprocAttr,h1,h7,h8,h10,e0,eq,s1,s2,s3,rz,u1,u2,ci,c1,c2];exact bad _ ⟨y,hm,by omega⟩ (by simp[sx])
   ·have hall:∀x∈r.take (j+1),0<=x/\x<=gr:=λx hx=>by
     rw[htk] at hx;rcases List.mem_append.1 hx with h | h
     ·exact ha x h
     ·rw[List.mem_singleton.1 h];omega
    have hsb:=wR (b:=60) (by decide) (l:=r.take (j+1)) λx hx=>by have:=hall x hx;omega
    have hl4:(r.take (j+1)).length<=4:=by rw[List.length_take];omega
    have w1:IntKind.wrap .i64 ((r.take j).sum+y)=(r.take (j+1)).sum:=by
     have e1:(r.take (j+1)).sum=(r.take j).sum+y:=by rw[htk,ro]
     rw[<-e1,aB (by omega) (by omega)]
    simp only[sz,simprocAttr,h1,h7,h8,h9,h10,e0,eq,s1,s2,s3,rz,u1,u2,ci,c1,c2,w1];exact ⟨by simp[St,LR5,sx,h1,h6,h7,h8],by simp[sx],hall⟩
 ·rintro t df g' ⟨rfl,rfl,⟨ht,h9,ha⟩⟩;rw[List.take_length] at h9 ha;exact fin t ha ht h9
theorem FN {Q:QT}{rws:List (List Int)}{v q:Nat}{t:T}{g:G}(hra:SlR NoP 0 .nil rws ra)(hc:1<=card/\card<=4)(hg1:1<=gr/\gr<=60)
  (ht:St t (LR5 v q)) (h8:tat t 8=.int .i64 0) (e0:g.h.get 0=.cells 2 [[.int .i64 gr,b]] 0 false false) (eq:g.h.get q=.cells 3 [[.int .i64 card,pa,ra]] 0 false false)
  (bad:∀t,(∃r∈rws,S.aA gr card r=false)->tat t 2=.bool false->Q .ret t [] g) (fin:∀t,(∀r∈rws,S.aA gr card r=true)->St t (LR5 v q)->Q (.exit 4) t [] g) :
  wpL (wp C0 d none gW) Q t [] g:=by
 obtain ⟨rr,s1,s2,s3,s4⟩:=Cf hra;have n1:=λg=>hra.len g;simp only[gW,lU];refine aV rws.length hra.1 (λj t df g'=>df=[]/\g'=g/\RJ4 gr card rws v q j t)
  ⟨rfl,rfl,ht,by simp⟩ h8 (by decide) (by rintro j t df g v s (rfl | rfl | rfl) ⟨a1,a2,⟨b1,b2,b3,-⟩,b6⟩<;>exact ⟨a1,a2,by simp[St,LR5,sx,b1,b2,b3],b6⟩) ?_ ?_ ?_
 ·rintro j t df g' hj ⟨rfl,rfl,⟨⟨h1,h6,h7,-⟩,ha⟩⟩ h8;simp only[sz,simprocAttr,h7,h8,eq,n1];exact ⟨by simp[St,LR5,sx,h1,h6,h7],ha⟩
 ·rintro j t df g' hj ⟨rfl,rfl,⟨⟨h1,h6,h7,-⟩,ha⟩⟩ h8;obtain ⟨r,hr,htk,hm⟩:=aq hj;obtain ⟨z,q2,q3,hz⟩:=s3 j r hr;have hry:=s4 (by omega);have n2:=λg=>hz.len g
  by_cases c1:(r.length:Int)=card
  ·simp only[sz,simprocAttr,h7,h8,eq,s1,q2,q3,n2,c1];refine FM (v:=v) (q:=q) (b:=b) (pa:=pa) (card:=card) (gr:=gr) s1 q2 q3 hry hz (by omega) hg1 (by simp[St,LR5,sx,h1,h6,h7,h8]) (by simp[sx]) (by simp[sx]) e0 eq ?_ ?_
   ·rintro t ⟨y,hy,hy2⟩ h2;refine bad t ⟨r,hm,?_⟩ h2;rw[<-Bool.not_eq_true,S.aA];simp only[Bool.and_eq_true,decide_eq_true_eq,List.all_eq_true];rintro ⟨⟨-,h⟩,-⟩;exact hy2 (h y hy)
   ·rintro t hall ⟨h8,h1,h6,h7,-⟩ h9
    by_cases c2:r.sum=gr
    ·simp only[sz,simprocAttr,gY,h1,h8,h9,e0,c2];refine ⟨?_,λx hx=>?_⟩
     ·simp[St,LR5,sx,h1,h6,h7]
     ·rw[htk] at hx;rcases List.mem_append.1 hx with h | h
      ·exact ha x h
      ·rw[List.mem_singleton.1 h,S.aA];simp only[Bool.and_eq_true,decide_eq_true_eq,List.all_eq_true];exact ⟨⟨c1,hall⟩,c2⟩
    ·simp only[sz,simprocAttr,gY,h1,h9,e0,c2];refine bad _ ⟨r,hm,?_⟩ (by simp[sx]);rw[S.aA];simp[c2]
  ·simp only[sz,simprocAttr,h7,h8,eq,s1,q2,q3,n2,c1];refine bad _ ⟨r,hm,?_⟩ (by simp[sx]);rw[S.aA];simp[c1]
 ·rintro t df g' ⟨rfl,rfl,⟨ht,ha⟩⟩;rw[List.take_length] at ha;exact fin t ha ht
end
theorem wO {d:Nat}{g:G}{v:AV}{n:Net}(hd:0<d)(hm:Agg n NoP 0 g.h v):ay C0 d N.an [v] g=.val (.bool (S.au n)):=by
 obtain ⟨b,rows,rfl,e,hm',hN,r1,r2,r3,r4⟩:=gy d hm;have bad:¬NR n->AV.bool false=AV.bool (S.au n):=λh=>by
  cases hn:S.au n with
  | true=>exact absurd (ed.1 hn) h
  | false=>rfl
 rw[rG];refine e6 tY (xs:=[.agg [.int .i64 n.grain,b]]) (by simp only[aJ,e]) (by simp[lz]) hd ?_;have nl:=λg=>hN.len g;simp only[sz,simprocAttr,lz];obtain ⟨g0,hg0⟩:∃g0,g0=G.empty.new (.cells [AV.int .i64 n.grain,b].length [[.int .i64 n.grain,b]] 0 false false):=⟨_,rfl⟩;have f0:g0.h.get 0=.cells 2 [[.int .i64 n.grain,b]] 0 false false:=by rw[hg0];simp[sx]
 have f1:1<=g0.nx:=by rw[hg0];simp[sx]
 rw[show (G.empty.new (.cells 2 [[AV.int .i64 n.grain,b]] 0 false false))=g0 from by rw[hg0];rfl];clear hg0;simp only[nf]
 by_cases c1:n.grain<1
 ·simp only[sz,simprocAttr,f0,c1];exact bad λh=>by have:=h.g1;omega
 by_cases c2:60<n.grain
 ·simp only[sz,simprocAttr,f0,c1,c2];exact bad λh=>by have:=h.g2;omega
 by_cases c3:(n.nodes.length:Int)<1
 ·simp only[sz,simprocAttr,f0,c1,c2,c3,nl];exact bad λh=>by have:=h.l1;omega
 by_cases c4:8<(n.nodes.length:Int)
 ·simp only[sz,simprocAttr,f0,c1,c2,c3,c4,nl];exact bad λh=>by have:=h.l2;omega
 refine bS (P:=λt' df g'=>df=[]/\g'=g0/\St t' [(1,.hptr 0 0 0 0)]) ?_ ?_
 ·simp only[sz,simprocAttr,f0,c1,c2,c3,c4,nl];simp[St,sx]
 rintro t df g1 ⟨rfl,rfl,h1,-⟩;simp only[sz,simprocAttr,lR];have hry:=r4 (by omega);refine aV n.nodes.length (by omega) (λj t df g=>df=[]/\RJ0 n b j t g)
  ⟨rfl,by simp[St,sx,h1,S.ah],f0,f1,by simp⟩ (by simp[sx]) (by decide) (by rintro j t df g v s (rfl | rfl | rfl) ⟨a1,⟨b1,b2,-⟩,b3,b4,b5⟩<;>exact ⟨a1,by simp[St,sx,b1,b2],b3,b4,b5⟩) ?_ ?_ ?_
 ·rintro j t df g hj ⟨rfl,⟨⟨h1,h3,-⟩,hg,hnx,ha⟩⟩ h4;simp only[sz,simprocAttr,h1,h4,hg,nl];exact ⟨by simp[St,sx,h1,h3],hg,hnx,ha⟩
 ·rintro j t df g hj ⟨rfl,⟨⟨h1,h3,-⟩,hg,hnx,ha⟩⟩ h4;obtain ⟨x,hx,htk,hxm⟩:=aq hj;obtain ⟨pa,ra,q1,hlt,hpa,hra⟩:=r3 j x hx;have hpl:=λg=>AO (d:=d+1) (g:=g) (P:=NoP) (k:=0) (l:=x.parents) (n:=(n.nodes.length:Int)) (Nat.succ_pos d) (hpa.tree (h':=g.h) (Nat.le_refl 0));have hne:¬(0=g.nx):=by omega
  have badn:S.aT n.nodes.length x=false->AV.bool false=AV.bool (S.au n):=λh=>bad λhr=>by have h1:=hr.card x hxm;have h2:=hr.places x hxm;rw[S.aT,h2] at h;simp at h;omega
  by_cases d1:x.card<1
  ·simp only[sz,simprocAttr,h1,h4,hg,r1,hlt,q1,d1];exact badn (by rw[S.aT];simp;omega)
  by_cases d2:4<x.card
  ·simp only[sz,simprocAttr,h1,h4,hg,r1,hlt,q1,d1,d2];exact badn (by rw[S.aT];simp;omega)
  cases d3:S.aQ x.parents n.nodes.length with
  | false =>
   rw[d3] at hpl;simp only[sz,simprocAttr,h1,h4,hg,r1,hlt,q1,hne,nl,hpl,d1,d2];exact badn (by rw[S.aT,d3];simp)
  | true =>
   rw[d3] at hpl;have hok:S.aT n.nodes.length x=true:=by rw[S.aT,d3];simp;omega
   have hall:∀y∈n.nodes.take (j+1),S.aT n.nodes.length y=true:=λy hy=>by
    rw[htk] at hy;rcases List.mem_append.1 hy with h | h
    ·exact ha y h
    ·rw[List.mem_singleton.1 h];exact hok
   have hcb:∀c∈(S.aa n).take (j+1),1<=c/\c<=4:=λc hc=>by rw[S.aa,<-List.map_take] at hc;obtain ⟨y,hy,rfl⟩:=List.mem_map.1 hc;have:=hall y hy;simp[S.aT] at this;omega
   have hpb:=fM hcb;have hp4:=jo (a:=((S.aa n).take (j+1)).length) (b:=8) (by rw[List.length_take];omega);have h48:(4:Int) ^ 8=65536:=by decide
   have e1:S.ah ((S.aa n).take (j+1))=S.ah ((S.aa n).take j)*x.card:=by
    rw[List.take_add_one];have:(S.aa n)[j]?=some x.card:=by simp[S.aa,hx]
    rw[this];exact rP _ _
   have w1:IntKind.wrap .i64 (S.ah ((S.aa n).take j)*x.card)=S.ah ((S.aa n).take (j+1)):=by rw[<-e1,aB (by omega) (by omega)]
   simp only[sz,simprocAttr,h1,h3,h4,hg,r1,hlt,q1,hne,nl,hpl,d1,d2,w1];refine ⟨?_,?_,?_,hall⟩
   ·simp[St,sx,h1]
   ·simp[H.get_put,hne,hg]
   ·first | (simp;done) | (simp;omega)
 rintro t df g ⟨rfl,⟨⟨h1,h3,-⟩,hg,hnx,ha⟩⟩;rw[List.take_length] at ha;rw[List.take_of_length_le (by rw[dg];exact Nat.le_refl _)] at h3;have hcard:∀x∈n.nodes,1<=x.card/\x.card<=4:=λx hx=>by have:=ha x hx;simp[S.aT] at this;omega
 have hplc:∀x∈n.nodes,S.aQ x.parents n.nodes.length=true:=λx hx=>by have:=ha x hx;simp[S.aT] at this;exact this.2
 have hcb:∀c∈S.aa n,1<=c/\c<=4:=λc hc=>by obtain ⟨y,hy,rfl⟩:=List.mem_map.1 hc;exact hcard y hy
 simp only[lX]
 by_cases d1:1024<S.ah (S.aa n)
 ·simp only[sz,simprocAttr,h3,d1];exact bad λh=>by have:=h.worlds;omega
 have hps:=λg=>zt (d:=d+1) (g:=g) (k:=0) (P:=NoP) (Nat.succ_pos d) (hm' g.h) (by omega) λx hx y hy=>by have:=eD (hplc x hx) y hy;omega
 cases d2:S.aN (S.af n) with
 | false =>
  simp only[sz,simprocAttr,h1,h3,hg,d1];refine cF (hps _) λrp hrp=>?_;have hac:=λg=>sE (d:=d+1) (g:=g) (P:=NoP) (k:=0) (p:=S.af n) (Nat.succ_pos d) (hrp.sl g.h);rw[d2] at hac;simp only[sz,simprocAttr,hac];exact bad λh=>by have:=h.acyc;rw[d2] at this;cases this
 | true =>
 refine bS (P:=λt' df g'=>df=[]/\g'=g/\St t' [(1,.hptr 0 0 0 0)]/\S.aN (S.af n)=true) ?_ ?_
 ·simp only[sz,simprocAttr,h1,h3,hg,d1];refine cF (hps _) λrp hrp=>?_;have hac:=λg=>sE (d:=d+1) (g:=g) (P:=NoP) (k:=0) (p:=S.af n) (Nat.succ_pos d) (hrp.sl g.h);rw[d2] at hac;simp only[sz,simprocAttr,hac];simp[St,sx,h1,d2]
 clear h1 h3;rintro t df g ⟨rfl,rfl,⟨h1,-⟩,hacyc⟩;simp only[sz,simprocAttr,lT,lV];refine aV n.nodes.length (by omega) (λj t df g=>df=[]/\RJ6 n b j t g)
  ⟨rfl,by simp[St,sx,h1],hg,hnx,by simp⟩ (by simp[sx]) (by decide) (by rintro j t df g v s (rfl | rfl | rfl) ⟨a1,⟨b1,-⟩,b3,b4,b5⟩<;>exact ⟨a1,by simp[St,sx,b1],b3,b4,b5⟩) ?_ ?_ ?_
 ·rintro j t df g hj ⟨rfl,⟨⟨h1,-⟩,hg,hnx,ha⟩⟩ h6;simp only[sz,simprocAttr,h1,h6,hg,nl];exact ⟨by simp[St,sx,h1],hg,hnx,ha⟩
 ·rintro j t df g hj ⟨rfl,⟨⟨h1,-⟩,hg,hnx,ha⟩⟩ h6;obtain ⟨x,hx,htk,hxm⟩:=aq hj;obtain ⟨pa,ra,q1,hlt,hpa,hra⟩:=r3 j x hx;have hne:¬(0=g.nx):=by omega
  have hpl:=uC (hplc x hxm) (by omega);have hpin:∀p∈x.parents,0<=p/\p<(n.nodes.length:Int):=eD (hplc x hxm);have hpb:∀c∈S.ak (S.aa n) x.parents,1<=c/\c<=4:=qX hcb λp hp=>by rw[dg];exact hpin p hp
  have badn:S.bg n x=false->AV.bool false=AV.bool (S.au n):=λh=>bad λhr=>by
   have h1:=hr.rows x hxm;have h2:=hr.row x hxm;have:S.bg n x=true:=by simp only[S.bg,S.aA,Bool.and_eq_true,decide_eq_true_eq,List.all_eq_true];exact ⟨h1,λr hr=>⟨⟨(h2 r hr).1,(h2 r hr).2.1⟩,(h2 r hr).2.2⟩⟩
   rw[h] at this;cases this
  simp only[sz,simprocAttr,h1,h6,hg,r1,hlt,q1,hne,hra.len];refine cF (wJ (d:=d+1) (k:=0) (P:=NoP) (Nat.succ_pos d) (hm' _) (by omega) hx (by omega) hpin) λrc hrc=>?_;have hsz:=λg=>zE (d:=d+1) (g:=g) (P:=NoP) (k:=0) (Nat.succ_pos d) (hrc.sl g.h);rw[wP hpb (by simp[S.ak];omega)] at hsz
  by_cases d1:(x.rows.length:Int)=S.ah (S.ak (S.aa n) x.parents)
  ·simp only[sz,simprocAttr,hsz,d1];refine FN (v:=j) (q:=g.nx) (b:=b) (pa:=pa) (card:=x.card) (gr:=n.grain) (rws:=x.rows) hra (hcard x hxm) (by omega) (by simp[St,LR5,sx,h1,h6]) (by simp[sx]) (by simp[H.get_put,hne,hg]) (by simp[H.get_put]) ?_ ?_
   ·rintro t ⟨r,hr,hr2⟩ h2;simp only[sx,sy,h2];refine badn ?_;rw[S.bg];have:x.rows.all (S.aA n.grain x.card)=false:=by rw[<-Bool.not_eq_true,List.all_eq_true];intro h;rw[h r hr] at hr2;cases hr2
    rw[this,Bool.and_false]
   ·rintro t hall ⟨h1,h6,h7,-⟩;simp only[sx,sy,↓reduceIte,h6];refine ⟨?_,?_,?_,λy hy=>?_⟩
    ·simp[St,h1]
    ·simp[H.get_put,hne,hg]
    ·first | (simp;done) | (simp;omega)
    ·rw[htk] at hy;rcases List.mem_append.1 hy with h | h
     ·exact ha y h
     ·rw[List.mem_singleton.1 h,S.bg,List.all_eq_true.2 hall];simp[d1]
  ·simp only[sz,simprocAttr,hsz,d1];exact badn (by rw[S.bg];simp[d1])
 ·rintro t df g ⟨rfl,⟨⟨h1,-⟩,hg,hnx,ha2⟩⟩;rw[List.take_length] at ha2;simp only[sz,simprocAttr,lW];have:S.au n=true:=by unfold S.au;simp only[Bool.and_eq_true,decide_eq_true_eq,List.all_eq_true];exact ⟨⟨⟨⟨⟨⟨⟨by omega,by omega⟩,by omega⟩,by omega⟩,ha⟩,by omega⟩,hacyc⟩,ha2⟩
  rw[this]
end
end Hx
end
section
namespace Hx
open Go
noncomputable section
def OwnC (g:G)(b id:Nat)(l tl:List Int):Prop:=b<=id/\id<g.nx/\g.h.get id=.cells 1 (l.map ci++tl.map ci) 0 false false
theorem OwnC.rows {g:G}{b id:Nat}{l tl:List Int}(h:OwnC g b id l tl):ak g.h 1 (.hsl id 0 0 l.length none)=some (l.map ci):=by rw[dx,h.2.2,bV,if_pos (by simp),List.drop_zero,List.take_left' (by simp)]
theorem OwnC.fr {g g':G}{b id:Nat}{l tl:List Int}(h:OwnC g b id l tl)(hn:g.nx<=g'.nx)(hf:g'.h.get id=g.h.get id):OwnC g' b id l tl:=⟨h.1,Nat.lt_of_lt_of_le h.2.1 hn,by rw[hf,h.2.2]⟩
theorem Jd {g:G}{b n:Nat}{K:AV->G->Prop}{D:ADf->Prop}(hn:n<=1000)(hb:b<=g.nx)(k:∀g',OwnC g' b g.nx [] (List.replicate n 0)->g'.nx=g.nx+1->(∀i,i<g.nx->g'.h.get i=g.h.get i)->K (.hsl g.nx 0 0 0 none) g') :
  (Dl 1 8 [.int .i64 0] (.int .i64 0) (.int .i64 (n:Int)) g).sat K g D:=by
 have h1:n<=aP:=by unfold aP;omega
 have h2:n*8<=aP:=by unfold aP;omega
 have key:Dl 1 8 [.int .i64 0] (.int .i64 0) (.int .i64 (n:Int)) g=.upd (.hsl g.nx 0 0 0 none) (g.new (.cells 1 (f8 n [.int .i64 0]) 0 false false)):=by
  show (match cR aP (.int .i64 (.ofNat n)) with
   | some cn=>match cR cn (.int .i64 0) with
    | some ln=>an (Nat.ble (cn*8) aP) (OR.upd (.hsl g.nx 0 0 ln none) (g.new (.cells 1 (f8 cn [.int .i64 0]) 0 false false))) .fail
    | none=>.fail
   | none=>.fail)=_
  have a1:cR aP (.int .i64 (.ofNat n))=some n:=by show an (Nat.ble n aP) (some n) none=_;rw[aa,if_pos (by simpa using h1)]
  have a2:cR n (.int .i64 0)=some 0:=by show an (Nat.ble 0 n) (some 0) none=_;rw[aa,if_pos (by simp)]
  rw[a1];dsimp only;rw[a2];dsimp only;rw[aa,if_pos (by simpa using h2)]
 rw[key];refine k _ ⟨hb,by simp,?_⟩ (by simp) (λi hi=>?_)
 ·simp[bh,f8,ci]
 ·rw[G.new_h,aD _ _ _ (by omega)]
theorem DZ {g:G}{b id:Nat}{l tl:List Int}{x y:Int}{w:AV}{K:AV->G->Prop}{D:ADf->Prop}(hv:OwnC g b id l (y::tl))(hx:ak g.h 1 w=some [ci x])(hr:l.length<=1000)
  (k:∀g',OwnC g' b id (l++[x]) tl->g'.nx=g.nx->(∀i,i≠id->g'.h.get i=g.h.get i)->K (.hsl id 0 0 (l++[x]).length none) g'):(dJ 1 8 (.hsl id 0 0 l.length none) w g).sat K g D:=by
 unfold dJ;rw[hx];obtain ⟨h1,h2,h3⟩:=hv;simp only[bg,G.get_eq,h3,aw,aa,Nat.beq_refl,Bool.true_and,Nat.ble_eq,Bool.and_eq_true,Nat.zero_add,Option.getD_none,Nat.sub_zero,List.length_append,List.length_map,List.length_cons,List.length_nil];rw[if_pos ⟨by omega,by unfold aP;omega⟩,if_pos (by omega)];have hnb:iC false=true:=rfl;rw[if_pos ⟨by omega,hnb⟩];have e:jh (l.map ci++(y::tl).map ci) l.length [ci x]=(l++[x]).map ci++tl.map ci:=by simp only[jh,gE];rw[List.map_append,List.append_assoc,List.map_cons,List.set_append_right _ _ (by simp)];simp
 rw[e];have k:=k (g.put id (.cells 1 ((l++[x]).map ci++tl.map ci) 0 false false)) ⟨h1,by simpa using h2,by simp[bh]⟩ (by simp) (λi hi=>by rw[G.put_h,aD _ _ _ hi]);have e3:l.length+1=(l++[x]).length:=by simp
 rw[e3];exact k
def IW (p:List Nat):VS:=λP k h v=>∃o:List Int,True/\CF (One o) (One (S.aN p)) P k h v
theorem DH {d k:Nat}{g:G}{P:Nat->Prop}{v:AV}{p:List Nat}(hd:0<d)(hv:SlR P k g.h p v)(hn:p.length<=8)(hp:∀x∈p,x<2 ^ p.length) :
  ∃z,ay C0 d N.aQ [v] g=.val z/\IW p NoP 0 .nil z:=by
 obtain ⟨v',e,r1⟩:=dF hv d;have hlt:=mi hv;rw[sP];refine bK ve (xs:=[v']) (by simp only[aJ,e]) (by simp[mA]) (kT λo=>rh (m:=1) (bL _) (bL _) (by decide) (by decide)) (by decide) hd ?_;have vl:∀g,d8 .slice v' g=.val (.int .i64 (p.length:Int)):=λg=>(r1 .nil).len g;simp only[sz,simprocAttr,mA,vl];refine Jd (b:=0) (n:=p.length) (by omega) (Nat.zero_le _) λg1 hu hn1 hf1=>?_;obtain ⟨id,hid⟩:∃id,id=G.empty.nx:=⟨_,rfl⟩;rw[<-hid] at hu ⊢;clear hid hn1 hf1;simp only[sz,simprocAttr];refine r_ (λn t df g=>df=[]/\∃(L:List Nat) (D:Nat) (tl:List Int),n=p.length - L.length/\L.length+tl.length=p.length/\CE p L/\Ii D L/\CD p D/\St t [(0,v'),(4,.hsl id 0 0 (L.map λi:Nat=>(i:Int)).length none),(5,.int .u64 (D:Int))]/\OwnC g 0 id (L.map λi:Nat=>(i:Int)) tl) p.length
  ⟨rfl,[],0,List.replicate p.length 0,by simp,by simp,⟨by simp,by simp⟩,⟨by decide,by simp⟩,ww,by simp[sx,St],hu⟩ ?_
 rintro n t df g ⟨rfl,L,D,tl,rfl,hLt,hO,hD,hG,⟨h0,h4,h5,-⟩,hu⟩;have hLl:=Fz hO;have hul:∀g',d8 .slice (.hsl id 0 0 (L.map λi:Nat=>(i:Int)).length none) g'=.val (.int .i64 (L.length:Int)):=λg'=>by rw[dC hu.rows];simp
 simp only[sz,simprocAttr,m6,h0,h4,vl,hul];refine a9 (λhb=>?_) (λhb=>?_)
 ·have hlt2:L.length<p.length:=by simpa using hb
  obtain ⟨y,tl,rfl⟩:∃y tl',tl=y::tl':=by
   cases tl with
   | nil=>simp at hLt;omega
   | cons y tl=>exact ⟨y,tl,rfl⟩
  simp only[sz,simprocAttr,h0,vl,mZ];refine bN (m:=p.length) (by omega) (λj t df g'=>df=[]/\g'=g/\St t [(0,v'),(16,v'),(4,.hsl id 0 0 (L.map λi:Nat=>(i:Int)).length none),(5,.int .u64 (D:Int))]/\∀v,v<j->D.testBit v=true\/¬Sub (Par p v) D)
   ⟨rfl,rfl,by simp[sx,St,h0,h4,h5],λv hv=>by omega⟩ (by simp[sx]) (by simp[sx]) (by decide) (by rintro j t df g v s (rfl | rfl | rfl)<;>simp[sx,St]) ?_ ?_
  ·rintro j t df g' hj ⟨rfl,rfl,⟨h0,h16,h4,h5,-⟩,hall⟩ h18 h17;obtain ⟨x,hx,-,hxm⟩:=aq hj;have hpj:Par p j=x:=by simp[Par,hx]
   have hxl:=hlt x hxm;have hjl:j<(p.map cu).length:=by simpa using hj
   have hjr:(p.map cu)[j]?=some (cu x):=by rw[List.getElem?_map,hx];rfl
   have b1:=tf .i64 D j hD.1;have hdv:D / 2 ^ j<18446744073709551616:=Nat.lt_of_le_of_lt (Nat.div_le_self _ _) hD.1;have b2:bD .and (.int .u64 ((D / 2 ^ j:Nat):Int)) (.int .u64 1)=.val (.int .u64 ((D / 2 ^ j &&& 1:Nat):Int)):=te _ 1 hdv (by decide);have b3:=z_ x D hxl hD.1;have ra:=λh=>(r1 h).nats;have hbit:D.testBit j = !decide (((D / 2 ^ j &&& 1:Nat):Int)=0):=by
    rw[<-qN,S.aZ];have h2:D / 2 ^ j &&& 1=(D / 2 ^ j) % 2:=Nat.and_one_is_mod _;rw[h2];have:=Nat.mod_lt (D / 2 ^ j) (show 0<2 by decide)
    by_cases h3:D / 2 ^ j % 2=0
    ·rw[h3];simp
    ·have h4:D / 2 ^ j % 2=1:=by omega
     rw[h4];simp
   have next:(D.testBit j=true\/¬Sub (Par p j) D)->∀v,v<j+1->D.testBit v=true\/¬Sub (Par p v) D:=λh v hv=>by
    by_cases e:v=j
    ·subst e;exact h
    ·exact hall v (by omega)
   by_cases c1:((D / 2 ^ j &&& 1:Nat):Int)=0
   ·by_cases c2:((x ^^^ (x &&& D):Nat):Int)=0
    ·have hd0:S.bm x D=0:=by simpa [S.bm] using c2
     have hsub:=wg.1 hd0;have hjL:j ∉ L:=λh=>by have:=(hD.2 j).2 h;rw[hbit,c1] at this;simp at this
     have hb2:D ||| S.ap j<18446744073709551616:=B_ hD.1 (iH j);simp only[sz,simprocAttr,h16,h4,h5,h18,b1,b2,b3,ra,hjl,hjr,cu,c1,c2];refine DZ (x:=(j:Int)) (hu.fr (by simp) (by rw[G.new_h,aD _ _ _ (by have:=hu.2.1;omega)])) (by simp[sx,sy,ci]) (by simp;omega) λg2 hu2 n2 f2=>?_;have hone:bD .shl (.int .u64 1) (.int .i64 (j:Int))=.val (.int .u64 (S.ap j:Int)):=dM .i64 j;have e1:(L.map λi:Nat=>(i:Int))++[(j:Int)]=(L++[j]).map λi:Nat=>(i:Int):=by simp
     rw[e1] at hu2 ⊢;simp only[sz,simprocAttr,h5,hone,kW _ _ hD.1 (iH j)];refine ⟨p.length - (L++[j]).length,by simp;omega,L++[j],D ||| S.ap j,tl,rfl,by simp at hLt ⊢;omega,Dq hO hjL hj λq hq=>?_,DF hD (by omega),yS hG (by omega) (by rw[hpj];exact hsub),by simp[sx,St,h0],hu2⟩;rw[hpj] at hq;exact (hD.2 q).1 (hsub q hq)
    ·have hns:¬Sub (Par p j) D:=λh=>c2 (by
      have:=wg.2 h;rw[hpj] at this;simp[S.bm] at this;simp[this])
     simp only[sz,simprocAttr,h0,h16,h4,h5,h18,h17,b1,b2,b3,ra,hjl,hjr,cu,c1,c2,St];exact next (.inr hns)
   ·simp only[sz,simprocAttr,h0,h16,h4,h5,h18,h17,b1,b2,ra,hjl,hjr,cu,c1,St];exact next (.inl (by rw[hbit,decide_eq_false c1];rfl))
  ·rintro t df g' ⟨rfl,rfl,-,hall⟩;obtain ⟨v0,hv0,hv0'⟩:=G3 hO hlt2;have hac:S.aN p=false:=by
    cases hc:S.aN p with
    | false=>rfl
    | true =>
     have:=wY hp hc (T:=D) (λv hv hb=>by
      rcases hall v hv with h | h
      ·rw[h] at hb;cases hb
      ·exact h) v0 hv0
     exact absurd ((hD.2 v0).1 this) hv0'
   simp only[sz,simprocAttr,m7];exact ⟨λ_=>True,[],.nils,.bool false,rfl,⟨.nils,rfl,by show 0<9223372036854775808;decide,rfl⟩,q_.2 (by rw[hac])⟩
 ·have hge:p.length<=L.length:=by simp at hb;omega
  have htl:tl=[]:=List.eq_nil_of_length_eq_zero (by omega);subst htl;have hfull:=Dp hO hge;have hac:=qq hG λv hv=>(hD.2 v).2 (hfull.1 v hv);simp only[sz,simprocAttr,m8,h4];refine ⟨λ_=>True,L.map (λi:Nat=>(i:Int)),_,_,rfl,⟨_,rfl,by simp;omega,trivial,_,hu.rows,All2.of_map (λa=>bj.2 rfl) _⟩,q_.2 (by rw[hac])⟩
end
end Hx
end
