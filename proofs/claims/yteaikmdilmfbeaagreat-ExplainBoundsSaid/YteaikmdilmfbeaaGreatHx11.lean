/- A part of the proof: an interpreter over abstract values, shown right against the model, and what the functions of the chapter compute on it. -/
import Derived.Test.YteaikmdilmfbeaaGreatHx10
set_option linter.unusedVariables false
set_option linter.unusedSimpArgs false
set_option linter.unnecessarySimpa false
section
section
namespace Hx
open Go
noncomputable section
theorem ae {α:Type}{l:List α}{j:Nat}(h:j<l.length):∃x,l[j]?=some x/\l.take (j+1)=l.take j++[x]/\x∈l :=
 ⟨l[j],List.getElem?_eq_getElem h,by rw[List.take_add_one,List.getElem?_eq_getElem h];rfl,List.getElem_mem h⟩
def S.aO (l:List Int):Int:=l.foldl (fun s x=>IntKind.wrap .i64 (s*x)) 1
theorem IK {d:Nat}{g:G}{v:AV}(hd:0<d)(hv:xy g.h v)(hl:(mT g.h v).length<9223372036854775808) :
  au C0 d N.af [v] g=.val (.int .i64 (S.aO (mT g.h v))):=by
 obtain ⟨v',e,hr,hlen⟩:=Hv hv hl d
 generalize mT g.h v=l at hr hlen hl ⊢
 rw[vd]
 refine eZ yq (xs:=[v']) (by simp only[aD,e]) (by simp[oG]) hd ?_
 simp only[sz,simprocAttr,oG]
 refine rq hl hlen (fun j t df g=>df=[]/\tat t 3=.int .i64 (S.aO (l.take j))) ⟨rfl,by simp[sx,S.aO]⟩ (by simp[sx]) (by simp[sx]) (by decide)
  (by rintro j t df g v s (rfl | rfl | rfl | rfl | rfl | rfl | rfl)<;>simp[sx]) ?_ ?_
 ·rintro j t df g hj ⟨rfl,h3⟩ h4 h0
  obtain ⟨x,hx,htk,hm⟩:=ae hj
  simp only[sz,simprocAttr,hr,h0,h3,h4,hx,hj,List.length_map,List.getElem?_map,Option.map_some,ci,htk,S.aO,List.foldl_append,List.foldl_cons,List.foldl_nil]
 ·rintro t df g ⟨rfl,h3⟩ -
  rw[List.take_length] at h3
  simp only[sz,simprocAttr,o_,h3]
def S.aI (l:List Int)(n:Int)(i:Nat):Bool:=decide (0<=l[i]?.getD 0)&&decide (l[i]?.getD 0<n)&&(i == 0 || decide (l[i - 1]?.getD 0<l[i]?.getD 0))
def S.aq (l:List Int)(n:Int):Bool:=(List.range l.length).all (S.aI l n)
def S.aM (n:Nat):Nat:=1*2 ^ n % 18446744073709551616
def S.ap (l:List Int):Nat:=l.foldl (fun s x=>s ||| S.aM x.toNat) 0
theorem ud (n:Nat):S.aM n<18446744073709551616:=Nat.mod_lt _ (by decide)
theorem uQ {α:Type}(f:α->Nat)(hf:∀a,f a<18446744073709551616):∀(l:List α) (s:Nat),s<18446744073709551616->l.foldl (fun s x=>s ||| f x) s<18446744073709551616
 | [],_,h=>h
 | a::l,s,h=>uQ f hf l _ (Ey h (hf a))
theorem q_ (l:List Int):S.ap l<18446744073709551616:=uQ _ (fun a=>ud _) l 0 (by decide)
theorem zg (l:List Int)(x:Int):S.ap (l++[x])=S.ap l ||| S.aM x.toNat:=by simp[S.ap]
theorem qp (k':IntKind)(n:Nat):cN .shl (.int .u64 1) (.int k' (n:Int))=.val (.int .u64 (S.aM n:Int)):=Iv k' 1 n
def S.be (s v:Nat):Bool:=s / 2 ^ v &&& 1 == 1
theorem JZ {d:Nat}{g:G}{s v:Nat}(hd:0<d)(hs:s<18446744073709551616)(hv:v<9223372036854775808) :
  au C0 d N.aH [.int .u64 (s:Int),.int .i64 (v:Int)] g=.val (.bool (S.be s v)):=by
 rw[xT]
 refine dy Bb (xs:=[.int .u64 (s:Int),.int .i64 (v:Int)]) (by simp only[aD,eW 0]) (by simp[sK]) hd ?_
 have h1:s / 2 ^ v<18446744073709551616:=Nat.lt_of_le_of_lt (Nat.div_le_self _ _) hs
 have h2:cN .and (.int .u64 ((s / 2 ^ v:Nat):Int)) (.int .u64 1)=.val (.int .u64 ((s / 2 ^ v &&& 1:Nat):Int)):=Ev (s / 2 ^ v) 1 h1 (by decide)
 simp only[sz,simprocAttr,sK,qR (show (0:Int)<=(v:Int) by omega) (by omega),DY _ _ _ hs,h2,S.be]
 congr 1
 generalize s / 2 ^ v &&& 1=z
 rw[Bool.eq_iff_iff,decide_eq_true_iff,beq_iff_eq];omega
def S.aG (p:List Nat)(s:Nat)(j:Nat):Nat:=(List.range j).foldl (fun s v=>if S.be s v then s ||| p[v]?.getD 0 else s) s
def S.up (p:List Nat)(s:Nat)(j:Nat):Nat:=(List.range j).foldl (fun s _=>S.aG p s p.length) s
theorem Cb {p:List Nat}(hp:∀x∈p,x<18446744073709551616){s:Nat}(hs:s<18446744073709551616):∀j,S.aG p s j<18446744073709551616:=by
 intro j
 induction j with
 | zero=>exact hs
 | succ j ih =>
  unfold S.aG at ih ⊢
  rw[List.range_succ,List.foldl_append]
  simp only[List.foldl_cons,List.foldl_nil]
  split
  ·refine Ey ih ?_
   cases h:p[j]? with
   | none=>decide
   | some x=>exact hp x (List.mem_of_getElem? h)
  ·exact ih
theorem gi (p:List Nat)(s j:Nat):S.aG p s (j+1)=if S.be (S.aG p s j) j then S.aG p s j ||| p[j]?.getD 0 else S.aG p s j:=by
 unfold S.aG
 rw[List.range_succ,List.foldl_append];rfl
theorem JF {p:List Nat}(hp:∀x∈p,x<18446744073709551616){s:Nat}(hs:s<18446744073709551616):∀j,S.up p s j<18446744073709551616:=by
 intro j
 induction j with
 | zero=>exact hs
 | succ j ih =>
  unfold S.up at ih ⊢
  rw[List.range_succ,List.foldl_append]
  exact Cb hp ih _
theorem me (p:List Nat)(s j:Nat):S.up p s (j+1)=S.aG p (S.up p s j) p.length:=by
 unfold S.up
 rw[List.range_succ,List.foldl_append];rfl
theorem K6 {d k:Nat}{g:G}{P:Nat->Prop}{v:AV}{p:List Nat}{s:Nat}(hd:0<d)(hv:SlR P k g.h p v)(hs:s<18446744073709551616) :
  au C0 d N.aT [v,.int .u64 (s:Int)] g=.val (.int .u64 (S.up p s p.length:Int)):=by
 obtain ⟨v',e,r1⟩:=aV hv d
 have hp:=o7 hv
 have hl:=hv.1
 rw[ya]
 refine eZ B0 (xs:=[v',.int .u64 (s:Int)]) (by simp only[aD,e,eW 0]) (by simp[sH]) hd ?_
 simp only[sz,simprocAttr,sH]
 refine rq hl (r1 .nil).len (fun j t df g=>df=[]/\tat t 1=.int .u64 (S.up p s j:Int)) ⟨rfl,by simp[sx,S.up]⟩ (by simp[sx]) (by simp[sx]) (by decide)
  (by rintro j t df g v s (rfl | rfl | rfl | rfl | rfl | rfl | rfl)<;>simp[sx]) ?_ ?_
 ·rintro j t df g hj ⟨rfl,h1⟩ h5 h0
  simp only[sz,simprocAttr]
  have hu:=JF hp hs j
  refine rq hl (r1 .nil).len (fun i t df g=>df=[]/\tat t 5=.int .i64 (j:Int)/\tat t 1=.int .u64 (S.aG p (S.up p s j) i:Int)) ⟨rfl,by simp[sx,h5],by simp[sx,S.aG,h1]⟩ (by simp[sx]) (by simp[sx,h0]) (by decide)
   (by rintro j t df g v s (rfl | rfl | rfl | rfl | rfl | rfl | rfl)<;>simp[sx]) ?_ ?_
  ·rintro i t df g hi ⟨rfl,h5,h1⟩ h6 h0
   have hr:=Cb hp hu i
   obtain ⟨x,hx,-,hm⟩:=ae hi
   simp only[sz,simprocAttr,h1,h6,JZ (Nat.succ_pos d) hr (show i<9223372036854775808 by omega)]
   refine be (fun hb=>?_) (fun hb=>?_)
   ·simp only[sz,simprocAttr,h0,h1,h5,h6,(r1 g.h).nats,hi,hx,List.length_map,List.getElem?_map,Option.map_some,cu,Au _ _ hr (hp x hm)]
    rw[gi,hb,hx];rfl
   ·simp only[sx,sy,↓reduceIte,Nat.reduceEqDiff,h0,h1,h5,h6]
    rw[gi,hb];rfl
  ·rintro t df g ⟨rfl,h5,h1⟩ h0
   simp only[sx,sy,↓reduceIte,h0,h5,h1]
   rw[me]
 ·rintro t df g ⟨rfl,h1⟩ -
  simp only[sz,simprocAttr,rO,h1]
def S.aP (p:List Nat):Bool:=(List.range p.length).all fun v=>!S.be (S.up p (p[v]?.getD 0) p.length) v
theorem uK {d k:Nat}{g:G}{P:Nat->Prop}{v:AV}{p:List Nat}(hd:0<d)(hv:SlR P k g.h p v) :
  au C0 d N.be [v] g=.val (.bool (S.aP p)):=by
 obtain ⟨v',e,r1⟩:=aV hv d
 have hp:=o7 hv
 have hl:=hv.1
 rw[r_]
 refine dy uc (xs:=[v']) (by simp only[aD,e]) (by simp[jJ]) hd ?_
 simp only[sz,simprocAttr,jJ]
 refine rq hl (r1 .nil).len (fun j t df g=>df=[]/\(List.range j).all (fun v=>!S.be (S.up p (p[v]?.getD 0) p.length) v)=true) ⟨rfl,rfl⟩ (by simp[sx]) (by simp[sx]) (by decide)
  (by rintro j t df g v s (rfl | rfl | rfl | rfl | rfl | rfl | rfl)<;>simp[sx]) ?_ ?_
 ·rintro j t df g hj ⟨rfl,hw⟩ h3 h0
  obtain ⟨x,hx,-,hm⟩:=ae hj
  have hx':=hp x hm
  simp only[sz,simprocAttr,h0,h3,(r1 g.h).nats,hj,hx,List.length_map,List.getElem?_map,Option.map_some,cu,K6 (Nat.succ_pos d) (r1 g.h) hx',JZ (Nat.succ_pos d) (JF hp hx' _) (show j<9223372036854775808 by omega)]
  refine be (fun hb=>?_) (fun hb=>?_)
  ·simp only[sz,simprocAttr]
   rw[S.aP,dY hj (by rw[hx];simp[hb])]
  ·simp only[sx,sy,↓reduceIte,Nat.reduceEqDiff,h0,h3]
   rw[bF,hw,hx];simp[hb]
 ·rintro t df g ⟨rfl,hw⟩ h0
  simp only[sz,simprocAttr,ku]
  rw[S.aP,hw]
def S.ae (l:List Int):Int:=l.foldl (·*·) 1
theorem rk (l:List Int)(x:Int):S.ae (l++[x])=S.ae l*x:=by simp[S.ae]
theorem j5 {a b:Nat}(h:a<=b):(4:Int) ^ a<=4 ^ b:=by
 obtain ⟨c,rfl⟩:∃c,b=a+c:=⟨b - a,by omega⟩
 induction c with
 | zero=>exact Int.le_refl _
 | succ c ih =>
  have:=ih (by omega)
  rw[show a+(c+1)=(a+c)+1 from rfl,Int.pow_succ]
  have h0:(0:Int)<=4 ^ (a+c):=Int.le_of_lt (Int.pow_pos (by decide))
  omega
theorem cS (a:Int)(l:List Int):S.ae (a::l)=a*S.ae l:=by
 have:∀(l:List Int) (s:Int),l.foldl (·*·) s=s*l.foldl (·*·) 1:=by
  intro l
  induction l with
  | nil=>intro s;simp
  | cons x l ih=>intro s;rw[List.foldl_cons,ih,List.foldl_cons,ih (1*x),Int.one_mul,Int.mul_assoc]
 unfold S.ae
 rw[List.foldl_cons,this,Int.one_mul]
theorem ch:∀{l:List Int},(∀x∈l,1<=x/\x<=4)->1<=S.ae l/\S.ae l<=4 ^ l.length
 | [],_=>⟨by decide,by decide⟩
 | a::l,h=>by
  obtain ⟨h1,h2⟩:=ch (l:=l) fun x hx=>h x (by simp[hx])
  obtain ⟨h3,h4⟩:=h a (by simp)
  rw[cS,List.length_cons,Int.pow_succ,Int.mul_comm (4 ^ l.length)]
  constructor
  ·have:=Int.mul_le_mul h3 h1 (by decide) (by omega)
   simpa using this
  ·exact Int.mul_le_mul h4 h2 (by omega) (by decide)
theorem yY {b:Int}(hb:0<=b):∀{l:List Int},(∀x∈l,0<=x/\x<=b)->0<=l.sum/\l.sum<=b*l.length
 | [],_=>by simp
 | a::l,h=>by
  obtain ⟨h1,h2⟩:=yY hb (l:=l) fun x hx=>h x (by simp[hx])
  obtain ⟨h3,h4⟩:=h a (by simp)
  rw[List.sum_cons,List.length_cons]
  have:b*((l.length+1:Nat):Int)=b*(l.length:Int)+b:=by rw[Int.natCast_add,Int.mul_add];simp
  omega
theorem tc (l:List Int)(x:Int):(l++[x]).sum=l.sum+x:=by simp
def S.bT (m:Causal)(p:Int):Int:=(m.nodes[p.toNat]?.map (·.card)).getD 0
def S.bW (m:Causal)(r:Int):Int:=(m.roots[r.toNat]?.map fun r=>(r.length:Int)).getD 0
def S.bB (a b:Nat):Nat:=a ^^^ (a &&& b)
theorem Ks {n:Nat}(h:n<64):S.aM n=2 ^ n:=by
 unfold S.aM
 rw[Nat.one_mul,Nat.mod_eq_of_lt]
 exact Nat.pow_lt_pow_right (a:=2) (by decide) h
theorem xr {d k:Nat}{g:G}{P:Nat->Prop}{v:AV}{l:List Int}{n:Int}(hd:0<d)(hv:SlR P k g.h l v) :
  au C0 d N.ay [v,.int .i64 n] g=.val (.bool (S.aq l n)):=by
 obtain ⟨v',e,r1⟩:=aV hv d
 rw[tQ]
 refine dy vo (xs:=[v',.int .i64 n]) (by simp only[aD,eW 0,e]) (by simp[lf]) hd ?_
 simp only[sz,simprocAttr,lf]
 have hl:=hv.1
 refine rq hl (r1 .nil).len (fun j t df g=>df=[]/\tat t 1=.int .i64 n/\(List.range j).all (S.aI l n)=true)
  ⟨rfl,by simp[sx],rfl⟩ (by simp[sx]) (by simp[sx]) (by decide) (by rintro j t df g v s (rfl | rfl | rfl | rfl | rfl | rfl | rfl)<;>simp[sx]) ?_ ?_
 ·rintro j t df g hj ⟨rfl,h1,hw⟩ h5 h0
  obtain ⟨x,hx,htk,hm⟩:=ae hj
  have bad:S.aI l n j=false->S.aq l n=false:=fun h=>dY hj h
  have rr:=(r1 g.h).ints
  simp only[sz,simprocAttr,rr,h0,h5,hx,hj,List.length_map,List.getElem?_map,Option.map_some,ci]
  refine be (fun hb=>?_) (fun hb=>?_)
  ·simp only[sz,simprocAttr,hb]
   rw[bad (by simp[S.aI,hx] at *;omega)]
  ·simp only[sz,simprocAttr,rr,hb,h0,h1,h5,hx,hj,List.length_map,List.getElem?_map,Option.map_some,ci]
   refine be (fun hc=>?_) (fun hc=>?_)
   ·simp only[sz,simprocAttr,hc]
    rw[bad (by simp[S.aI,hx] at *;omega)]
   ·simp only[sz,simprocAttr,hc,h5]
    refine be (fun hd=>?_) (fun hd=>?_)
    ·obtain ⟨i,rfl⟩:∃i,j=i+1:=⟨j - 1,by simp at hd;omega⟩
     obtain ⟨y,hy,-,-⟩:=ae (l:=l) (j:=i) (by omega)
     have hi:i<l.length:=by omega
     have e:IntKind.wrap .i64 (((i+1:Nat):Int) - 1)=(i:Int):=by rw[aF (by omega) (by omega)];omega
     simp only[sz,simprocAttr,rr,hd,e,h0,h5,hx,hj,hy,hi,List.length_map,List.getElem?_map,Option.map_some,ci]
     refine be (fun he=>?_) (fun he=>?_)
     ·simp only[sz,simprocAttr]
      rw[bad (by simp[S.aI,hx,hy] at *;omega)]
     ·simp only[sx,sy,↓reduceIte,Nat.reduceEqDiff,h0,h1,h5]
      rw[bF,hw]
      simp[S.aI,hx,hy] at *;omega
    ·have:j=0:=by simp at hd;omega
     subst this
     simp only[sz,simprocAttr,hd,h0,h1,h5]
     simp[S.aI,hx] at *;omega
 ·rintro t df g ⟨rfl,-,hw⟩ -
  simp only[sz,simprocAttr,mi]
  rw[S.aq,hw]
def S.bU (m:Causal)(x:Mech):List Int:=x.frm.map (S.bT m)++x.noise.map (S.bW m)
def S.bX (m:Causal):Int:=S.ae (m.roots.map fun r=>(r.length:Int))
end
end Hx
end
section
namespace Hx
open Go
def Sub (a s:Nat):Prop:=∀v,a.testBit v=true->s.testBit v=true
theorem tS (s v:Nat):S.be s v=s.testBit v:=by
 rw[Nat.testBit_eq_decide_div_mod_eq,S.be,Nat.and_one_is_mod]
 rw[Bool.eq_iff_iff,beq_iff_eq,decide_eq_true_iff]
theorem yL {a s:Nat}:S.bB a s=0↔Sub a s:=by
 constructor
 ·intro h v hv
  have:=congrArg (·.testBit v) h
  simp[S.bB,hv] at this
  exact this
 ·intro h
  refine Nat.eq_of_testBit_eq fun v=>?_
  have:=h v
  simp only[S.bB,Nat.testBit_xor,Nat.testBit_and,Nat.zero_testBit]
  cases ha:a.testBit v
  ·rfl
  ·rw[this ha];rfl
theorem rE (a b v:Nat):(a ||| b).testBit v=(a.testBit v || b.testBit v):=Nat.testBit_or a b v
theorem zG {n:Nat}(h:n<64)(v:Nat):(S.aM n).testBit v=decide (n=v):=by rw[Ks h,Nat.testBit_two_pow]
section
variable {p:List Nat}
def Par (p:List Nat)(v:Nat):Nat:=p[v]?.getD 0
def Cl (p:List Nat)(s:Nat):Prop:=∀v,v<p.length->s.testBit v=true->Sub (Par p v) s
theorem yR {s t:Nat}(hc:Cl p t)(h:Sub s t):∀j,j<=p.length->Sub (S.aG p s j) t
 | 0,_=>h
 | j+1,hj=>by
  have ih:=yR hc h j (by omega)
  rw[gi]
  split
  ·rename_i hb
   rw[tS] at hb
   intro v hv
   rw[rE,Bool.or_eq_true] at hv
   rcases hv with hv | hv
   ·exact ih v hv
   ·exact hc j (by omega) (ih j hb) v hv
  ·exact ih
theorem C4 {s t:Nat}(hc:Cl p t)(h:Sub s t):∀j,Sub (S.up p s j) t
 | 0=>h
 | j+1=>by rw[me];exact yR hc (C4 hc h j) _ (Nat.le_refl _)
def GM (p:List Nat)(s:Nat):Prop:=Cl p s/\∀v,v<p.length->s.testBit v=true->(S.up p (Par p v) p.length).testBit v=false
theorem vS:S.aP p=true↔∀v,v<p.length->(S.up p (Par p v) p.length).testBit v=false:=by
 unfold S.aP
 rw[List.all_eq_true]
 constructor
 ·intro h v hv
  have:=h v (List.mem_range.2 hv)
  rw[tS] at this
  simpa [Par] using this
 ·intro h v hv
  have:=h v (List.mem_range.1 hv)
  rw[tS]
  simpa [Par] using this
def bct (s:Nat):Nat->Nat
 | 0=>0
 | n+1=>bct s n+(if s.testBit n then 1 else 0)
theorem Dh (s:Nat):∀n,bct s n<=n
 | 0=>Nat.le_refl _
 | n+1=>by have:=Dh s n;unfold bct;split<;>omega
theorem By {a s:Nat}(h:Sub a s):∀n,bct a n<=bct s n
 | 0=>Nat.le_refl _
 | n+1=>by
  have:=By h n
  unfold bct
  split
  ·rename_i hb;rw[if_pos (h n hb)];omega
  ·split<;>omega
theorem Ie {a s:Nat}(h:Sub a s){v:Nat}(hv:s.testBit v=true)(ha:a.testBit v=false):∀n,v<n->bct a n<bct s n
 | 0,h0=>by omega
 | n+1,hn=>by
  unfold bct
  by_cases hvn:v=n
  ·subst hvn
   have:=By h v
   rw[if_pos hv,ha];simp;omega
  ·have:=Ie h hv ha n (by omega)
   split
   ·rename_i hb;rw[if_pos (h n hb)];omega
   ·split<;>omega
theorem BU {s:Nat}:∀n,bct s n=n->∀v,v<n->s.testBit v=true
 | 0,_,v,h=>by omega
 | n+1,h,v,hv=>by
  unfold bct at h
  have:=Dh s n
  split at h
  ·rename_i hb
   by_cases e:v=n
   ·subst e;exact hb
   ·exact BU n (by omega) v (by omega)
  ·omega
theorem tb {a s:Nat}(h:Sub a s)(h':Sub s a):a=s:=Nat.eq_of_testBit_eq fun v=>by
 cases ha:a.testBit v
 ·cases hs:s.testBit v
  ·rfl
  ·rw[h' v hs] at ha;cases ha
 ·rw[h v ha]
theorem KG {a s:Nat}(h:Sub a s):a<=s:=by
 have:a ||| s=s:=Nat.eq_of_testBit_eq fun v=>by
  rw[rE]
  cases ha:a.testBit v
  ·simp
  ·rw[h v ha];rfl
 rw[<-this];exact Nat.left_le_or
theorem oT (s:Nat):∀j,Sub s (S.aG p s j)
 | 0=>fun _ h=>h
 | j+1=>by
  have ih:=oT s j
  rw[gi]
  split
  ·intro v hv;rw[rE,ih v hv];rfl
  ·exact ih
theorem C7 {s:Nat}{j k:Nat}(h:j<=k):Sub (S.aG p s j) (S.aG p s k):=by
 induction h with
 | refl=>exact fun _ h=>h
 | step _ ih =>
  rw[gi]
  split
  ·intro v hv;rw[rE,ih v hv];rfl
  ·exact ih
theorem Fu {s:Nat}(h:S.aG p s p.length=s):Cl p s:=by
 intro v hv hb u hu
 have h1:(S.aG p s v).testBit v=true:=oT s v v hb
 have h2:(S.aG p s (v+1)).testBit u=true:=by
  rw[gi,tS,h1,if_pos rfl,rE]
  have:(p[v]?.getD 0).testBit u=true:=hu
  rw[this];simp
 have:=C7 (p:=p) (s:=s) (show v+1<=p.length by omega) u h2
 rwa [h] at this
theorem Ha {s n v:Nat}(h:s<2 ^ n)(hv:s.testBit v=true):v<n:=by
 rcases Nat.lt_or_ge v n with h1 | h1
 ·exact h1
 ·rw[Nat.testBit_lt_two_pow (Nat.lt_of_lt_of_le h (Nat.pow_le_pow_right (by decide) h1))] at hv;cases hv
theorem KJ {f:Nat->Nat}{n:Nat}(hm:∀j,Sub (f j) (f (j+1)))(hb:∀j,f j<2 ^ n)(hs:∀j,f (j+1)=f j->f (j+2)=f (j+1)):f (n+1)=f n:=by
 have key:∀j,j<=bct (f j) n\/f (j+1)=f j:=by
  intro j
  induction j with
  | zero=>exact .inl (Nat.zero_le _)
  | succ j ih =>
   rcases ih with ih | ih
   ·by_cases e:f (j+1)=f j
    ·exact .inr (hs j e)
    ·left
     have:∃v,(f (j+1)).testBit v=true/\(f j).testBit v=false:=by
      apply Classical.byContradiction
      intro hno
      apply e
      refine tb (fun v hv=>?_) (hm j)
      cases hc:(f j).testBit v
      ·exact absurd ⟨v,hv,hc⟩ hno
      ·rfl
     obtain ⟨v,h1,h2⟩:=this
     have:=Ie (hm j) h1 h2 n (Ha (hb _) h1)
     omega
   ·exact .inr (hs j ih)
 rcases key n with h | h
 ·have hc:bct (f n) n=n:=by have:=Dh (f n) n;omega
  refine tb (fun v hv=>?_) (hm n)
  exact BU n hc v (Ha (hb _) hv)
 ·exact h
theorem KD {a b n:Nat}(h:a<2 ^ n)(h':b<2 ^ n):a ||| b<2 ^ n:=Nat.or_lt_two_pow h h'
theorem Dc {v:Nat}(hp:∀x∈p,x<2 ^ p.length):Par p v<2 ^ p.length:=by
 unfold Par
 cases h:p[v]? with
 | none=>exact Nat.pow_pos (by decide)
 | some x=>exact hp x (List.mem_of_getElem? h)
theorem yC (hp:∀x∈p,x<2 ^ p.length){s:Nat}(hs:s<2 ^ p.length):∀j,S.aG p s j<2 ^ p.length
 | 0=>hs
 | j+1=>by
  have ih:=yC hp hs j
  rw[gi]
  split
  ·exact KD ih (Dc hp)
  ·exact ih
theorem F0 (hp:∀x∈p,x<2 ^ p.length){s:Nat}(hs:s<2 ^ p.length):∀j,S.up p s j<2 ^ p.length
 | 0=>hs
 | j+1=>by rw[me];exact yC hp (F0 hp hs j) _
theorem FM (hp:∀x∈p,x<2 ^ p.length){s:Nat}(hs:s<2 ^ p.length):Cl p (S.up p s p.length):=by
 apply Fu
 rw[<-me]
 exact KJ (f:=fun j=>S.up p s j) (fun j=>by rw[me];exact oT _ _) (fun j=>F0 hp hs j) (fun j e=>by
  have e:S.up p s (j+1)=S.up p s j:=e
  show S.up p s (j+1+1)=S.up p s (j+1)
  rw[me,e,<-me,e])
theorem zx {s:Nat}:∀j,Sub s (S.up p s j)
 | 0=>fun _ h=>h
 | j+1=>fun v hv=>by rw[me];exact oT _ _ v (zx j v hv)
end
end Hx
end
section
namespace Hx
open Go
noncomputable section
theorem kZ {a b:List Nat}(h:∀i∈a,∀j∈b,i≠j):meets a b=false:=by
 simp only[meets,List.any_eq_false]
 intro i hi hc
 exact h i hi i (List.contains_iff_mem.1 hc) rfl
theorem dX {x y:Foot}(hb:x.lk.big=false)(hb2:y.lk.big=false)(hs:x.lk.sr=[])(hs2:y.lk.sr=[])(h1:∀i∈x.wr,∀j∈y.wr,i≠j)(h2:∀i∈x.wr,∀j∈y.lk.rd,i≠j)(h3:∀i∈y.wr,∀j∈x.lk.rd,i≠j) :
  cg x y=true:=by
 have m1:=kZ h1
 have m2:=kZ h2
 have m3:=kZ h3
 have m4:meets y.wr x.wr=false:=kZ fun i hi j hj e=>h1 j hj i hi e.symm
 have m5:∀l:List Nat,meets l []=false:=fun l=>by simp[meets]
 simp only[cg,ju,gG,hb,hb2,hs,hs2,m1,m2,m3,m4,m5,fst1,List.map_nil,Bool.not_false,Bool.and_self,Bool.true_or]
 split<;>split<;>rfl
theorem nA {g:G}{b sz bytes:Nat}{zero:List AV}{k1 k2:IntKind}{n:Nat}{K:AV->G->Prop}{D:ADf->Prop}(hn:n<=aO)(hb:n*bytes<=aO)(hg:b<=g.nx)
  (k:∀v' g',Own g' b v' sz (List.replicate n zero)->g'.nx=g.nx+1->(∀i,i<g.nx->g'.h.get i=g.h.get i)->vid v'=some g.nx->g'.lg=g.nx::g.lg->K v' g') :
  (x9 sz bytes zero (.int k1 (n:Int)) (.int k2 (n:Int)) g).sat K g D:=by
 show (match bN aO (.int k2 (.ofNat n)) with
  | some cn=>match bN cn (.int k1 (.ofNat n)) with
   | some ln=>aq (Nat.ble (cn*bytes) aO) (OR.upd (.hsl g.nx 0 0 ln none) (g.new (.cells sz (eD cn zero) 0 false false))) .fail
   | none=>.fail
  | none=>.fail).sat K g D
 simp only[bN,aa,Nat.ble_eq,if_pos hn,Nat.le_refl,if_pos hb,if_true]
 refine k _ _ (.inr ⟨g.nx,0,false,hg,by simp,by simp,by simp[aR,eD]⟩) (by simp) (fun i hi=>?_) rfl (by simp)
 rw[G.new_h,ap _ _ _ (by omega)]
theorem KY (n sz id ep i off:Nat)(k:IntKind){j:Nat}(h:j<n):HM n sz (.hptr id ep i off) (.int k (j:Int))=.val (.hptr id ep i (off+j*sz)):=by
 show aq (Nat.blt j n) (OR.val (.hptr id ep i (off+j*sz))) .fail=_
 rw[aa,if_pos (by simpa using h)]
def u8v (x:UInt8):AV:=.int .u8 (x.toNat:Int)
theorem G5 (l:List UInt8)(h:H)(d:Nat):snap h d aE (.agg (l.map u8v))=some (.agg (l.map u8v)):=by
 have:∀l:List UInt8,aD (Hx.snap h d 23) (l.map u8v)=some (l.map u8v):=fun l=>by
  induction l with
  | nil=>rfl
  | cons x l ih =>
   simp only[List.map_cons,aD,ih,show Hx.snap h d 23 (u8v x)=some (u8v x) from rfl]
 show (match aD (Hx.snap h d 23) (l.map u8v) with | some ys=>some (AV.agg ys) | none=>none)=_
 rw[this]
def Raw (w:AV):Prop:=w=.nils\/∃rows,w=.tsl 0 1 rows
abbrev C1:Type:=List UInt8×UInt16×List UInt8
def S.bg (us:List UInt8):List Int:=(us.take 5).map fun u=>1+(u.toNat:Int) % 4
theorem HH {P:Nat->Prop}{k:Nat}{h:H}{x:UInt16}{cs:List AV}:Rp.rp P k h x cs↔cs=[.int .u16 (x.toNat:Int)]:=by simp[Rp.rp]
theorem q8 {P:Nat->Prop}{k:Nat}{h:H}{x:C1}{cs:List AV}:Rp.rp P k h x cs↔∃a b,cs=[a,.int .u16 (x.2.1.toNat:Int),b]/\SlR P k h x.1 a/\SlR P k h x.2.2 b:=by
 constructor
 ·rintro ⟨c1,c2,rfl,⟨a,rfl,h1⟩,c3,c4,rfl,h2,⟨b,rfl,h3⟩⟩
  rw[HH.1 h2];exact ⟨a,b,rfl,h1,h3⟩
 ·rintro ⟨a,b,rfl,h1,h2⟩
  exact ⟨[a],[_,b],rfl,⟨a,rfl,h1⟩,[_],[b],rfl,HH.2 rfl,⟨b,rfl,h2⟩⟩
theorem FG {d k:Nat}{g:G}{P:Nat->Prop}{v:AV}{x:C1}(hd:0<d)(hm:Agg x P k g.h v) :
  ∃r,au C0 d N.bh [v] g=.val r/\IT 0 (S.bg x.1) r:=by
 obtain ⟨v',e,cs,rfl,hc⟩:=jM (dI x) (by decide) d hm
 obtain ⟨a,b,rfl,hA,hB⟩:=q8.1 hc
 obtain ⟨rows,r1,r2,r3,r4⟩:=hA.all
 have r1:∀h',af h' 1 a=some rows:=r1
 rw[om]
 refine bp pT (xs:=[.agg [a,.int .u16 (x.2.1.toNat:Int),b]]) (by simp only[aD,e]) (by simp[fG]) (bi _) (by decide) hd ?_
 have hL:(S.bg x.1).length=min x.1.length 5:=by simp[S.bg];omega
 simp only[sz,simprocAttr,fG,iJ]
 refine a_ (min x.1.length 5) (by omega) (fun j t df g=>df=[]/\tat t 1=.hptr 0 0 0 0/\g.h.get 0=.cells 3 [[a,.int .u16 (x.2.1.toNat:Int),b]] 0 false false/\1<=g.nx/\∃u,tat t 3=u/\Own g 1 u 1 (((S.bg x.1).take j).map ci))
  ⟨rfl,by simp[sx],by simp[sx],by simp[sx],_,rfl,.inl ⟨by simp[sx],rfl⟩⟩ (by simp[sx]) (by decide)
  (by rintro j t df g v s (rfl | rfl | rfl)<;>simp[sx]) ?_ ?_ ?_
 ·rintro j t df g hj ⟨rfl,h1,hg,hnx,u,h3,hu⟩ h4
  by_cases hlt:(j:Int)<(x.1.length:Int)
  ·have:decide ((j:Int)<((min x.1.length 5:Nat):Int))=decide ((j:Int)<5):=by congr 1;apply propext;omega
   simp only[sz,simprocAttr,h1,h4,hg,hA.len,hlt,this]
   exact ⟨hnx,u,h3,hu⟩
  ·have:decide ((j:Int)<((min x.1.length 5:Nat):Int))=false:=decide_eq_false (by omega)
   simp only[sz,simprocAttr,h1,h4,hg,hA.len,hlt,this]
   exact ⟨hnx,u,h3,hu⟩
 ·rintro j t df g hj ⟨rfl,h1,hg,hnx,u,h3,hu⟩ h4
  obtain ⟨y,hy,-,-⟩:=ae (l:=x.1) (j:=j) (by omega)
  obtain ⟨z,hz,htk,-⟩:=ae (l:=S.bg x.1) (j:=j) (by omega)
  have hzy:z=1+(y.toNat:Int) % 4:=by
   have:(S.bg x.1)[j]?=some (1+(y.toNat:Int) % 4):=by simp[S.bg,show j<5 by omega,hy]
   rw[this] at hz;injection hz with hz;exact hz.symm
  obtain ⟨row,z1,z2⟩:=r3 j y hy
  rw[dj.1 z2] at z1
  have hlt:j<rows.length:=by omega
  have hy8:y.toNat<256:=y.toNat_lt
  have m1:0<=(y.toNat:Int) % 4:=by omega
  have m2:(y.toNat:Int) % 4<4:=by omega
  simp only[sz,simprocAttr,h1,h3,h4,hg,r1,hlt,z1,it .u8 (show (0:Int)<=(y.toNat:Int) by omega) (show (0:Int)<4 by decide),aF (show -9223372036854775808<=(y.toNat:Int) % 4 by omega) (show (y.toNat:Int) % 4<9223372036854775808 by omega),aF (show -9223372036854775808<=1+(y.toNat:Int) % 4 by omega) (show 1+(y.toNat:Int) % 4<9223372036854775808 by omega)]
  refine cF (new:=[ci (1+(y.toNat:Int) % 4)]) (hu.step (Fr.new _ _)) (by simp[sx,sy,ci]) (by simp) (by simp[aO];omega) fun v2 g2 hv2 n2 f2 _ l2=>?_
  simp only[sz,simprocAttr,h1,h4]
  refine ⟨?_,?_,_,rfl,?_⟩
  ·rw[f2 0 (by simp) (fun e=>by have:=(hu.lt e).1;omega),G.new_h,ap _ _ _ (by omega),hg]
  ·simp at n2;omega
  ·rw[htk,hzy]
   simpa [ci] using hv2
 ·rintro t df g ⟨rfl,h1,hg,hnx,u,h3,hu⟩
  rw[List.take_of_length_le (by omega)] at hu
  simp only[sz,simprocAttr,ic,h3]
  exact ⟨_,hu.ints (by omega)⟩
theorem Dl {g:G}{b sz:Nat}{u:AV}{rows:List (List AV)}(hu:Own g b u sz rows){n:Nat}(hn:n<=rows.length) :
  ∃y,nL sz u none (some (.int .i64 (n:Int))) g=.val y/\af g.h sz y=some (rows.take n):=by
 rcases hu with ⟨rfl,rfl⟩ | ⟨id,ep,lo,h1,h2,rfl,h3⟩
 ·have:n=0:=by simpa using hn
  subst this
  exact ⟨.nils,rfl,rfl⟩
 ·simp only[nL,jF,h3,Nat.beq_refl,Nat.beq_refl,Bool.true_and,ax,Nat.zero_add,aa,Nat.ble_eq,Nat.le_refl,if_true,aW,Option.getD_none,Nat.sub_zero]
  simp only[bN]
  rw[show aq (n.ble rows.length) (some n) none=some n from by rw[aa,if_pos (by simpa using hn)]]
  dsimp only
  by_cases h0:rows=[]
  ·subst h0
   have:n=0:=by simpa using hn
   subst this
   cases lo
   ·exact ⟨_,rfl,rfl⟩
   ·exact ⟨_,rfl,o4 _ _ _ _⟩
  ·have hb:rows.length.beq 0=false:=by cases rows with | nil=>exact absurd rfl h0 | cons a l=>rfl
   rw[hb]
   refine ⟨_,rfl,?_⟩
   rw[eN,h3,dg,if_pos (by omega),List.drop_zero]
theorem Cz {g:G}{b sz:Nat}{u:AV}{rows:List (List AV)}(hu:Own g b u sz rows){n:Nat}(hn:n<=rows.length) :
  ∃y,nL sz u (some (.int .i64 (n:Int))) none g=.val y/\af g.h sz y=some (rows.drop n):=by
 rcases hu with ⟨rfl,rfl⟩ | ⟨id,ep,lo,h1,h2,rfl,h3⟩
 ·have:n=0:=by simpa using hn
  subst this
  exact ⟨.nils,rfl,rfl⟩
 ·simp only[nL,jF,h3,Nat.beq_refl,Nat.beq_refl,Bool.true_and,ax,Nat.zero_add,aa,Nat.ble_eq,Nat.le_refl,if_true,aW,Option.getD_none,Nat.sub_zero]
  simp only[bN]
  rw[show aq (n.ble rows.length) (some n) none=some n from by rw[aa,if_pos (by simpa using hn)]]
  dsimp only
  by_cases h0:rows.length=n
  ·subst h0
   rw[if_pos (Nat.beq_refl _),List.drop_length]
   cases lo
   ·exact ⟨_,rfl,rfl⟩
   ·exact ⟨_,rfl,o4 _ _ _ _⟩
  ·rw[if_neg (fun e=>h0 (Nat.eq_of_beq_eq_true e))]
   refine ⟨_,rfl,?_⟩
   rw[eN,h3,dg,if_pos (by omega),List.take_of_length_le (by simp)]
def S.aX (os:List UInt8)(k:Nat):Nat:=if k<os.length then ((os[k]?.map UInt8.toNat).getD 0) % (k+1) else 0
def S.aA (os:List UInt8):Nat->List Int
 | 0=>[]
 | k+1=>(S.aA os k).take (S.aX os k)++(k:Int)::(S.aA os k).drop (S.aX os k)
theorem nJ (os:List UInt8):∀k,(S.aA os k).length=k
 | 0=>rfl
 | k+1=>by simp only[S.aA,List.length_append,List.length_cons,List.length_take,List.length_drop,nJ os k];omega
theorem xn {d k:Nat}{g:G}{P:Nat->Prop}{v:AV}{x:C1}(hd:0<d)(hm:Agg x P k g.h v) :
  ∃r,au C0 d N.aw [v] g=.val r/\IT 0 (S.aA x.2.2 (min x.1.length 5)) r:=by
 obtain ⟨v',e,cs,rfl,hc⟩:=jM (dI x) (by decide) d hm
 obtain ⟨a,b,rfl,hA,hB⟩:=q8.1 hc
 have hms:∀g:G,Agg x NoP (max k d) g.h (.agg [a,.int .u16 (x.2.1.toNat:Int),b]):=fun g=>⟨_,rfl,q8.2 ⟨a,b,rfl,hA.tree (Nat.le_refl _),hB.tree (Nat.le_refl _)⟩⟩
 obtain ⟨rows,r1,r2,r3,r4⟩:=hB.all
 have r1:∀h',af h' 1 b=some rows:=r1
 rw[jA]
 refine bp kV (xs:=[.agg [a,.int .u16 (x.2.1.toNat:Int),b]]) (by simp only[aD,e]) (by simp[cM]) (bi _) (by decide) hd ?_
 have hL:(S.bg x.1).length=min x.1.length 5:=by simp[S.bg];omega
 simp only[sz,simprocAttr,cM,el]
 refine a_ (min x.1.length 5) (by omega) (fun j t df g=>df=[]/\tat t 1=.hptr 0 0 0 0/\g.h.get 0=.cells 3 [[a,.int .u16 (x.2.1.toNat:Int),b]] 0 false false/\1<=g.nx/\∃u,tat t 3=u/\Own g 1 u 1 ((S.aA x.2.2 j).map ci))
  ⟨rfl,by simp[sx],by simp[sx],by simp[sx],_,rfl,.inl ⟨by simp[sx],rfl⟩⟩ (by simp[sx]) (by decide)
  (by rintro j t df g v s (rfl | rfl | rfl)<;>simp[sx]) ?_ ?_ ?_
 ·rintro j t df g hj ⟨rfl,h1,hg,hnx,u,h3,hu⟩ h4
  simp only[sz,simprocAttr,h1,h4,hg]
  refine bo (FG (Nat.succ_pos d) (hms _)) fun r hr=>?_
  simp only[sz,simprocAttr,h1,h4,hg,(hr.sl .nil).len,hL]
  exact ⟨hnx,u,h3,hu⟩
 ·rintro j t df g hj ⟨rfl,h1,hg,hnx,u,h3,hu⟩ h4
  have hpl:((S.aA x.2.2 j).map ci).length=j:=by rw[List.length_map,nJ]
  have hle:S.aX x.2.2 j<=j:=by
   unfold S.aX;split
   ·have:=Nat.mod_lt (((x.2.2)[j]?.map UInt8.toNat).getD 0) (show 0<j+1 by omega);omega
   ·omega
  have key:∀(t:T) (Q:QT),tat t 1=.hptr 0 0 0 0->tat t 3=u->tat t 4=.int .i64 (j:Int)->tat t 5=.int .i64 (S.aX x.2.2 j:Int) ->
    (∀(t':T) (g':G),tat t' 1=.hptr 0 0 0 0->tat t' 4=.int .i64 (j:Int)->g'.h.get 0=.cells 3 [[a,.int .u16 (x.2.1.toNat:Int),b]] 0 false false->1<=g'.nx->(∃u,tat t' 3=u/\Own g' 1 u 1 ((S.aA x.2.2 (j+1)).map ci))->Q .norm t' [] g') ->
    wp C0 (d+1) none cd Q t [] g:=by
   intro t Q h1 h3 h4 h5 kk
   obtain ⟨y1,s1,w1⟩:=Dl hu (n:=S.aX x.2.2 j) (by omega)
   simp only[sz,simprocAttr,cd,h3,h5,List.head?_nil,List.head?_cons,s1]
   refine cF (rows:=[]) (b:=1) (.inl ⟨rfl,rfl⟩) w1 hnx (by simp[aO];omega) fun v1 g1 hv1 n1 f1 vid1 _=>?_
   simp only[sz,simprocAttr,h4]
   refine cF (new:=[ci (j:Int)]) (hv1.step (Fr.new _ _)) (by simp[sx,sy,ci]) (by simp) (by simp[aO,nJ];omega) fun v2 g2 hv2 n2 f2 vid2 _=>?_
   have hu1:Own g1 1 u 1 ((S.aA x.2.2 j).map ci):=hu.fr n1 fun i hi=>f1 i (hu.lt hi).2 (by simp[vid])
   have hnv:∀i,i<g.nx->vid v1≠some i:=fun i hi e=>by
    rcases vid1 with h | ⟨i',h,hi'⟩
    ·rw[h] at e;cases e
    ·rw[h] at e;injection e with e;omega
   have hu2:Own g2 1 u 1 ((S.aA x.2.2 j).map ci):=hu1.fr (by simp at n2;omega) fun i hi=>by
    have hlt:=(hu.lt hi).2
    rw[f2 i (by simp;omega) (hnv i hlt),G.new_h,ap _ _ _ (by omega)]
   obtain ⟨y2,s2,w2⟩:=Cz hu2 (n:=S.aX x.2.2 j) (by omega)
   simp only[sz,simprocAttr,h3,h5,List.head?_nil,List.head?_cons,s2]
   refine cF hv2 w2 (by simp at n2;omega) (by simp[aO,nJ];omega) fun v3 g3 hv3 n3 f3 _ _=>?_
   simp only[sz,simprocAttr]
   refine kk _ _ (by simp[sx,h1]) (by simp[sx,h4]) ?_ (by simp at n2;omega) ⟨_,rfl,?_⟩
   ·rw[f3 0 (by simp at n2;omega) (fun e=>by have:=(hv2.lt e).1;omega),f2 0 (by simp) (hnv 0 (by omega)),G.new_h,ap _ _ _ (by omega),f1 0 (by omega) (by simp[vid]),hg]
   ·simp only[sx,↓reduceIte]
    simpa [S.aA,List.map_take,List.map_drop] using hv3
  simp only[sz,simprocAttr,h1,h4,hg,hB.len]
  refine be (fun hb=>?_) (fun hb=>?_)
  ·have hjo:j<x.2.2.length:=by simp at hb;omega
   obtain ⟨y,hy⟩:∃y,x.2.2[j]?=some y:=⟨_,List.getElem?_eq_getElem hjo⟩
   obtain ⟨row,z1,z2⟩:=r3 j y hy
   rw[dj.1 z2] at z1
   have hy8:y.toNat<256:=y.toNat_lt
   have hlt:j<rows.length:=by omega
   have hat:((S.aX x.2.2 j:Nat):Int)=(y.toNat:Int) % ((j:Int)+1):=by
    unfold S.aX;rw[if_pos hjo,hy];simp
   simp only[sz,simprocAttr,h1,h4,hg,r1,hlt,z1,aF (show -9223372036854775808<=(y.toNat:Int) by omega) (show (y.toNat:Int)<9223372036854775808 by omega),aF (show -9223372036854775808<=(j:Int)+1 by omega) (show (j:Int)+1<9223372036854775808 by omega),it .i64 (show (0:Int)<=(y.toNat:Int) by omega) (show 0<(j:Int)+1 by omega)]
   refine key _ _ (by simp[sx,h1]) (by simp[sx,h3]) (by simp[sx,h4]) (by simp[sx,hat]) fun t' g' e1 e4 e0 en eu=>?_
   simp only[sy,e1,e4,e0]
   exact ⟨en,eu⟩
  ·have hat:S.aX x.2.2 j=0:=by unfold S.aX;rw[if_neg];simp at hb;omega
   simp only[sx]
   refine key _ _ (by simp[sx,h1]) (by simp[sx,h3]) (by simp[sx,h4]) (by simp[sx,hat]) fun t' g' e1 e4 e0 en eu=>?_
   simp only[sy,e1,e4,e0]
   exact ⟨en,eu⟩
 ·rintro t df g ⟨rfl,h1,hg,hnx,u,h3,hu⟩
  simp only[sz,simprocAttr,dS,h3]
  exact ⟨_,hu.ints (by rw[nJ];omega)⟩
def S.bK (cards:List Int):List Int->Nat->List Int×Bool
 | vals,0=>(vals,false)
 | vals,k+1=>if (vals[k]?.getD 0)+1<(cards[k]?.getD 0) then (vals.set k ((vals[k]?.getD 0)+1),true) else S.bK cards (vals.set k 0) k
def S.bN (cards vals:List Int):List Int×Bool:=S.bK cards vals vals.length
def S.bL (cards:List Int):Nat->List Int->List (List Int)
 | 0,_=>[]
 | f+1,v=>v::(if (S.bN cards v).2 then S.bL cards f (S.bN cards v).1 else [])
def S.cg (cards:List Int):List (List Int):=S.bL cards (S.ae cards).toNat (List.replicate cards.length 0)
def S.aS (l:List Int)(h:Int):Int:=l.foldr (fun c q=>q / c) h
def S.aQ (l:List Int)(h:Int)(i:Nat):Int:=S.aS (l.drop (i+1)) h % l[i]?.getD 1
def S.ak (l:List Int)(h:Int):List Int:=(List.range l.length).map (S.aQ l h)
theorem Dy {l:List Int}{h:Int}(hl:∀c∈l,0<c)(hh:0<=h):0<=S.aS l h/\S.aS l h<=h:=by
 induction l with
 | nil=>exact ⟨hh,Int.le_refl _⟩
 | cons c l ih =>
  obtain ⟨a,b⟩:=ih fun x hx=>hl x (by simp[hx])
  have hc:=hl c (by simp)
  show 0<=S.aS l h / c/\S.aS l h / c<=h
  exact ⟨Int.ediv_nonneg a (by omega),Int.le_trans (Int.ediv_le_self _ a) b⟩
theorem Fh {d k:Nat}{g:G}{P:Nat->Prop}{v:AV}{l:List Int}{h:Int}(hd:0<d)(hv:SlR P k g.h l v)(hl:l.length<=1000)(hc:∀c∈l,0<c)(hh:0<=h/\h<9223372036854775808) :
  ∃r,au C0 d N.aR [v,.int .i64 h] g=.val r/\IT 0 (S.ak l h) r:=by
 obtain ⟨v',e,r1⟩:=aV hv d
 rw[tF]
 refine bp vB (xs:=[v',.int .i64 h]) (by simp only[aD,e,eW 0]) (by simp[kT]) (bi _) (by decide) hd ?_
 have vl:∀g,dG .slice v' g=.val (.int .i64 (l.length:Int)):=fun g=>(r1 .nil).len g
 simp only[sz,simprocAttr,kT,vl]
 refine s7 (b:=0) (n:=l.length) (by simp[aO];omega) (by simp[aO];omega) (by simp) fun u g1 hu n1 f1 v1=>?_
 simp only[sz,simprocAttr,vl,aF (show -9223372036854775808<=(l.length:Int) - 1 by omega) (show (l.length:Int) - 1<9223372036854775808 by omega)]
 refine B4 (m:=l.length) (by omega) (fun j t df g=>df=[]/\St t [(0,v'),(1,.int .i64 (S.aS (l.drop j) h)),(5,u)]/\Own g 0 u 1 (((List.range l.length).map fun i=>if j<=i then S.aQ l h i else 0).map ci))
  ⟨rfl,by simp[sx,St,S.aS],?_⟩ (by simp[sx]) (by decide) (by rintro j t df g v s (rfl | rfl | rfl | rfl | rfl)<;>simp[sx,St]) ?_ ?_
 ·have:((List.range l.length).map fun i=>if l.length<=i then S.aQ l h i else 0).map ci=List.replicate l.length [AV.int .i64 0]:=by
   refine List.ext_getElem (by simp) fun i h1 h2=>?_
   have:i<l.length:=by simpa using h1
   simp[ci];omega
  rw[this];exact hu
 ·rintro j t df g hj ⟨rfl,⟨h0,h1,h5,-⟩,ho⟩ h6
  obtain ⟨c,hcj,-,hm⟩:=ae (l:=l) (j:=j) hj
  have hc0:=hc c hm
  obtain ⟨q0,q1⟩:=Dy (l:=l.drop (j+1)) (h:=h) (fun x hx=>hc x (List.mem_of_mem_drop hx)) hh.1
  have hlt:j<(((List.range l.length).map fun i=>if j+1<=i then S.aQ l h i else 0).map ci).length:=by simp;omega
  have hrow:(((List.range l.length).map fun i=>if j+1<=i then S.aQ l h i else 0).map ci)[j]?=some (ci 0):=by
   rw[List.getElem?_map,List.getElem?_map,List.getElem?_range hj];show some (ci (if j+1<=j then _ else 0))=_;rw[if_neg (by omega)]
  have hcl:(l.map ci)[j]?=some (ci c):=by rw[List.getElem?_map,hcj];rfl
  have hlm:j<(l.map ci).length:=by simpa using hj
  have hdj:S.aS (l.drop j) h=S.aS (l.drop (j+1)) h / c:=by
   have:l.drop j=c::l.drop (j+1):=by
    rw[List.drop_eq_getElem_cons hj];congr 1
    rw[List.getElem?_eq_getElem hj] at hcj;injection hcj
   rw[this];rfl
  have hdig:S.aQ l h j=S.aS (l.drop (j+1)) h % c:=by rw[S.aQ,hcj];rfl
  simp only[sz,simprocAttr,h0,h1,h5,h6,ho.rows,hlt,(r1 g.h).ints,hcl,hlm,ci,it .i64 q0 hc0]
  refine dB (row:=ci 0) (row':=ci (S.aQ l h j)) ho hrow rfl rfl (by rw[hdig];rfl) fun g2 o2 n2 f2=>?_
  have e2:(((List.range l.length).map fun i=>if j+1<=i then S.aQ l h i else 0).map ci).set j (ci (S.aQ l h j))=((List.range l.length).map fun i=>if j<=i then S.aQ l h i else 0).map ci:=by
   refine List.ext_getElem (by simp) fun i h1 h2=>?_
   rw[List.getElem_set]
   simp only[List.getElem_map,List.getElem_range]
   split
   ·rename_i hi;subst hi;rw[if_pos (Nat.le_refl _)]
   ·rename_i hi
    by_cases hji:j+1<=i
    ·rw[if_pos hji,if_pos (by omega)]
    ·rw[if_neg hji,if_neg (by omega)]
  rw[e2] at o2
  simp only[sz,simprocAttr,h0,h1,h5,h6,(r1 g2.h).ints,hcl,hlm,ci,DW .i64 q0 hc0,<-hdj,St]
  have hb:=Dy (l:=l.drop j) (h:=h) (fun x hx=>hc x (List.mem_of_mem_drop hx)) hh.1
  refine ⟨?_,o2⟩
  rw[aF (by omega) (by omega)]
 ·rintro t df g ⟨rfl,⟨h0,h1,h5,-⟩,ho⟩
  simp only[sz,simprocAttr,md,h5]
  have:((List.range l.length).map fun i=>if 0<=i then S.aQ l h i else 0)=S.ak l h:=by simp[S.ak]
  rw[this] at ho
  exact ⟨fun _=>True,ho.ints (by simp[S.ak];omega)⟩
def S.af:List Int->List Int->Int
 | _::cs,v::vs=>v*S.ae cs+S.af cs vs
 | _,_=>0
def InC (cards vals:List Int):Prop:=All2 (fun c v=>(0:Int)<=v/\v<c) cards vals
theorem cT:∀{cards vals:List Int},(∀c∈cards,1<=c/\c<=4)->InC cards vals->0<=S.af cards vals/\S.af cards vals<S.ae cards
 | [],[],_,_=>⟨Int.le_refl _,by decide⟩
 | c::cs,v::vs,hc,h=>by
  obtain ⟨a,b⟩:=cT (cards:=cs) (vals:=vs) (fun x hx=>hc x (by simp[hx])) h.2
  obtain ⟨p1,-⟩:=ch (l:=cs) fun x hx=>hc x (by simp[hx])
  have hv:=h.1
  rw[cS]
  show 0<=v*S.ae cs+S.af cs vs/\v*S.ae cs+S.af cs vs<c*S.ae cs
  have h1:0<=v*S.ae cs:=Int.mul_nonneg hv.1 (by omega)
  have h2:(v+1)*S.ae cs<=c*S.ae cs:=Int.mul_le_mul_of_nonneg_right (by omega) (by omega)
  rw[Int.add_mul,Int.one_mul] at h2
  omega
 | [],_::_,_,h=>h.elim
 | _::_,[],_,h=>h.elim
theorem InC.drop:∀{cards vals:List Int} (j:Nat),InC cards vals->InC (cards.drop j) (vals.drop j)
 | _,_,0,h=>h
 | [],[],j+1,_=>trivial
 | _::_,_::_,j+1,h=>InC.drop j h.2
 | [],_::_,_,h=>h.elim
 | _::_,[],_,h=>h.elim
theorem InC.len {cards vals:List Int}(h:InC cards vals):vals.length=cards.length:=(All2.len h).symm
theorem AF {d k k2:Nat}{g:G}{P P2:Nat->Prop}{v w:AV}{cards vals:List Int}(hd:0<d)(hv:SlR P k g.h cards v)(hw:SlR P2 k2 g.h vals w)(hl:cards.length<=13)(hc:∀c∈cards,1<=c/\c<=4)(hin:InC cards vals) :
  au C0 d N.aG [v,w] g=.val (.int .i64 (S.af cards vals)):=by
 obtain ⟨v',e,r1⟩:=aV hv d
 obtain ⟨w',e2,r2⟩:=aV hw d
 have hvl:=hin.len
 rw[ue]
 refine eZ wV (xs:=[v',w']) (by simp only[aD,e,e2]) (by simp[mQ]) hd ?_
 have vl:∀g,dG .slice v' g=.val (.int .i64 (cards.length:Int)):=fun g=>(r1 .nil).len g
 simp only[sz,simprocAttr,mQ,vl,aF (show -9223372036854775808<=(cards.length:Int) - 1 by omega) (show (cards.length:Int) - 1<9223372036854775808 by omega)]
 refine B4 (m:=cards.length) (by omega) (fun j t df g=>df=[]/\St t [(0,v'),(1,w'),(5,.int .i64 (S.af (cards.drop j) (vals.drop j))),(6,.int .i64 (S.ae (cards.drop j)))])
  ⟨rfl,?_⟩ (by simp[sx]) (by decide) (by rintro j t df g v s (rfl | rfl | rfl | rfl | rfl)<;>simp[sx,St]) ?_ ?_
 ·simp[sx,St,S.af,S.ae]
 ·rintro j t df g hj ⟨rfl,⟨h0,h1,h5,h6,-⟩⟩ h7
  obtain ⟨c,hcj,-,hm⟩:=ae (l:=cards) (j:=j) hj
  obtain ⟨x,hxj,-,-⟩:=ae (l:=vals) (j:=j) (by omega)
  have dc:cards.drop j=c::cards.drop (j+1):=by
   rw[List.drop_eq_getElem_cons hj];rw[List.getElem?_eq_getElem hj] at hcj;injection hcj with hcj;rw[hcj]
  have dv:vals.drop j=x::vals.drop (j+1):=by
   rw[List.drop_eq_getElem_cons (by omega)];rw[List.getElem?_eq_getElem (by omega)] at hxj;injection hxj with hxj;rw[hxj]
  have hd0:=hin.drop j
  have hcd:∀y∈cards.drop j,1<=y/\y<=4:=fun y hy=>hc y (List.mem_of_mem_drop hy)
  have hb0:=cT hcd hd0
  obtain ⟨p1,p2⟩:=ch hcd
  have hb1:=cT (fun y hy=>hc y (List.mem_of_mem_drop hy)) (hin.drop (j+1))
  obtain ⟨q1,q2⟩:=ch (l:=cards.drop (j+1)) fun y hy=>hc y (List.mem_of_mem_drop hy)
  have pw:∀n,n<=13->(4:Int) ^ n<=67108864:=fun n hn=>by
   have:=j5 hn
   have e:(4:Int) ^ 13=67108864:=by decide
   omega
  have pw1:=pw (cards.drop j).length (by simp;omega)
  rw[dc,dv] at hb0 hd0
  rw[dc] at p1 p2 pw1
  have hx0:0<=x/\x<c:=hd0.1
  have hmul:0<=x*S.ae (cards.drop (j+1)):=Int.mul_nonneg hx0.1 (by omega)
  rw[cS] at hb0 p1 p2
  have hb0:0<=x*S.ae (cards.drop (j+1))+S.af (cards.drop (j+1)) (vals.drop (j+1))/\x*S.ae (cards.drop (j+1))+S.af (cards.drop (j+1)) (vals.drop (j+1))<c*S.ae (cards.drop (j+1)):=hb0
  have hlm:j<(cards.map ci).length:=by simpa using hj
  have hlv:j<(vals.map ci).length:=by rw[List.length_map];omega
  have hcl:(cards.map ci)[j]?=some (ci c):=by rw[List.getElem?_map,hcj];rfl
  have hxl:(vals.map ci)[j]?=some (ci x):=by rw[List.getElem?_map,hxj];rfl
  have hcm:S.ae (cards.drop (j+1))*c=c*S.ae (cards.drop (j+1)):=Int.mul_comm _ _
  simp only[sz,simprocAttr,h0,h1,h5,h6,h7,(r1 g.h).ints,(r2 g.h).ints,hcl,hlm,hlv,hxl,ci,aF (show -9223372036854775808<=x*S.ae (cards.drop (j+1)) by omega) (show x*S.ae (cards.drop (j+1))<9223372036854775808 by omega),aF (show -9223372036854775808<=S.af (cards.drop (j+1)) (vals.drop (j+1))+x*S.ae (cards.drop (j+1)) by omega) (show S.af (cards.drop (j+1)) (vals.drop (j+1))+x*S.ae (cards.drop (j+1))<9223372036854775808 by omega),aF (show -9223372036854775808<=S.ae (cards.drop (j+1))*c by omega) (show S.ae (cards.drop (j+1))*c<9223372036854775808 by omega),St]
  refine ⟨?_,?_⟩
  ·rw[dc,dv]
   show AV.int .i64 (_+_)=AV.int .i64 (x*S.ae (cards.drop (j+1))+S.af _ _)
   rw[Int.add_comm]
  ·rw[dc,cS,hcm]
 ·rintro t df g ⟨rfl,⟨h0,h1,h5,h6,-⟩⟩
  simp only[sz,simprocAttr,nI,h5]
theorem kf {l:List Int}(hc:∀c∈l,1<=c/\c<=4)(hl:l.length<=13):S.aO l=S.ae l:=by
 have pw:∀n,n<=13->(4:Int) ^ n<=67108864:=fun n hn=>by
  have:=j5 hn
  have e:(4:Int) ^ 13=67108864:=by decide
  omega
 have key:∀j,j<=l.length->S.aO (l.take j)=S.ae (l.take j):=by
  intro j
  induction j with
  | zero=>intro _;rfl
  | succ j ih =>
   intro hj
   obtain ⟨x,hx,htk,hm⟩:=ae (l:=l) (j:=j) (by omega)
   have ih:=ih (by omega)
   have hb:=ch (l:=l.take (j+1)) fun y hy=>hc y (List.mem_of_mem_take hy)
   have:=pw (l.take (j+1)).length (by simp;omega)
   rw[htk] at hb this ⊢
   rw[rk] at hb ⊢
   show S.aO (l.take j++[x])=_
   unfold S.aO at ih ⊢
   rw[List.foldl_append,ih]
   show IntKind.wrap .i64 (S.ae (l.take j)*x)=_
   rw[aF (by omega) (by omega)]
 have:=key l.length (Nat.le_refl _)
 rwa [List.take_length] at this
end
end Hx
end
section
namespace Hx
open Go
def S.bQ (x:Mech)(roots:List Int)(V:Nat->Int):List Int:=(x.frm.map fun q=>V q.toNat)++(x.noise.map fun r=>roots[r.toNat]?.getD 0)
def S.bV (m:Causal)(roots act:List Int)(V:Nat->Int)(i:Nat)(x:Mech):Int:=if 0<=act[i]?.getD 0 then act[i]?.getD 0 else x.out[(S.af (S.bU m x) (S.bQ x roots V)).toNat]?.getD 0
def Sol (m:Causal)(roots act:List Int)(V:Nat->Int):Prop:=∀(i:Nat) (x:Mech),m.nodes[i]?=some x->V i=S.bV m roots act V i x
noncomputable def S.V (m:Causal)(roots act:List Int):Nat->Int:=Classical.epsilon (Sol m roots act)
noncomputable def S.cd (m:Causal)(roots act:List Int):List Int:=(List.range m.nodes.length).map (S.V m roots act)
theorem Al {cards vals:List Int}(hl:cards.length=vals.length)(h:∀(i:Nat) c v,cards[i]?=some c->vals[i]?=some v->0<=v/\v<c):InC cards vals:=by
 induction cards generalizing vals with
 | nil=>cases vals with
  | nil=>trivial
  | cons v vals=>simp at hl
 | cons c cards ih=>cases vals with
  | nil=>simp at hl
  | cons v vals=>exact ⟨h 0 c v rfl rfl,ih (by simpa using hl) fun i c' v' h1 h2=>h (i+1) c' v' (by simpa using h1) (by simpa using h2)⟩
theorem InC.get {cards vals:List Int}(h:InC cards vals){i:Nat}{c:Int}(hc:cards[i]?=some c):∃v,vals[i]?=some v/\0<=v/\v<c:=All2.get h hc
def S.bD (cs vs:List Int)(a:Int):Int:=(cs.zip vs).foldl (fun a p=>a*p.1+p.2) a
theorem sW:∀(cs vs:List Int) (a:Int),cs.length=vs.length->S.bD cs vs a=a*S.ae cs+S.af cs vs
 | [],[],a,_=>by simp[S.bD,S.ae,S.af]
 | c::cs,v::vs,a,h=>by
  show S.bD cs vs (a*c+v)=_
  rw[sW cs vs _ (by simpa using h),cS]
  show _=_+(v*S.ae cs+S.af cs vs)
  rw[Int.add_mul,Int.mul_assoc,Int.add_assoc]
 | [],_::_,_,h=>by simp at h
 | _::_,[],_,h=>by simp at h
end Hx
end
section
namespace Hx
open Go
noncomputable section
def hz (cs vs:List Int)(j:Nat):Int:=((cs.zip vs).take j).foldl (fun a p=>a*p.1+p.2) 0
theorem InC.take {cards vals:List Int}(h:InC cards vals)(j:Nat):InC (cards.take j) (vals.take j):=All2.take h j
section
variable {d k:Nat}{m:Causal}{roots act:List Int}{V:Nat->Int}{a b w u:AV}{p1 p2 p3 p4 iu:Nat}{hid:Int}{r:Nat->Nat}
end
end
end Hx
end
section
namespace Hx
open Go
noncomputable section
theorem bB (ag:Bool)(n l sz off:Nat)(row:List AV)(g:G):pf ag n (.tptr l sz [row] 0 off) g=orV (bI ag n row off):=rfl
section
variable {d:Nat}{m:Causal}{a b:AV}
end
end
end Hx
end
section
namespace Hx
open Go
noncomputable section
theorem j4 {C:Cfg}{d:Nat}{r:List SR}{t:T}{g:G}{K:AV->G->Prop}{id:Nat}(hg:g.h.get id=.dfr true)(h:uk r t (g.put id (.dfr false)) fun vs=>K (gX vs) (g.put id (.dfr false))):wN C d r t [.mark id] g K:=by
 unfold wN
 have:fq (I C) d [.mark id] g=some (g.put id (.dfr false)):=by
  simp only[fq,G.get_eq,hg]
 rw[this];exact h
def Fam (g:G)(b K:Nat)(V:Nat->AV)(W:Nat->List (List AV)):Prop :=
 (∀k,k<K->Own g b (V k) 1 (W k))/\∀k l,k<K->l<K->k≠l->∀id,vid (V k)=some id->vid (V l)≠some id
def Ls (c:Nat->Int)(V:Nat->AV)(i:Nat):List AV:=[.int .i64 (c i),V (3*i+1),V (3*i+2),V (3*i+3)]
def F3 (n:Nat)(c:Nat->Int)(V:Nat->AV):List (List AV):=(List.range n).map (Ls c V)
structure ME where
 (n p4 q i5 p7 i9 b:Nat)
 (nv w5 w9 e7:AV)
 (gr:Int)
 (row0:List AV)
 (prow:List (List AV))
 (us:List UInt8)
structure ME.Ok (e:ME):Prop where
 ord:1<e.q/\e.q<e.p4/\e.p4<e.i5/\e.i5<e.p7/\e.p7<e.i9/\e.i9<e.b
 n1:1<=e.n/\e.n<=4
 g1:2<=e.gr/\e.gr<=12
 vn:vid e.nv=some e.q
 v5:vid e.w5=some e.i5
 v9:vid e.w9=some e.i9
 l7:SlR NoP 0 .nil e.us e.e7
structure MI (e:ME) (g:G) (V:Nat->AV) (W:Nat->List (List AV)) (c:Nat->Int) (ow:List Bool) (cap:Nat):Prop where
 h0:g.h.get 0=.cells 5 [e.row0] 0 false false
 h1:g.h.get 1=.cells 3 [[.int .i64 0,.nils,.nils]] 0 false false
 hN:Own g 0 e.nv 4 (F3 e.n c V)
 h4:g.h.get e.p4=.cells 3 [[.int .i64 e.gr,V 0,e.nv]] 0 false false
 h5:Own g 0 e.w5 4 e.prow
 h7:∃cc:Int,0<=cc/\cc<=(cap:Int)/\g.h.get e.p7=.cells 2 [[e.e7,.int .i64 cc]] 0 false false
 h9:Own g 0 e.w9 1 (ow.map fun x=>[.bool x])
 fam:Fam g e.b (3*e.n+1) V W
 nx:e.b<=g.nx
section
variable {e:ME}{g g':G}{V:Nat->AV}{W:Nat->List (List AV)}{c:Nat->Int}{ow:List Bool}{cap:Nat}
theorem lW {v:AV}{i j:Nat}(h:vid v=some i)(h':vid v=some j):i=j:=by rw[h] at h';injection h'
structure MP (e:ME) (g:G) (V V':Nat->AV) (W:Nat->List (List AV)) (c:Nat->Int) (ow:List Bool) (cap:Nat):Prop where
 h0:g.h.get 0=.cells 5 [e.row0] 0 false false
 h1:g.h.get 1=.cells 3 [[.int .i64 0,.nils,.nils]] 0 false false
 hN:Own g 0 e.nv 4 (F3 e.n c V)
 h4:g.h.get e.p4=.cells 3 [[.int .i64 e.gr,V 0,e.nv]] 0 false false
 h5:Own g 0 e.w5 4 e.prow
 h7:∃cc:Int,0<=cc/\cc<=(cap:Int)/\g.h.get e.p7=.cells 2 [[e.e7,.int .i64 cc]] 0 false false
 h9:Own g 0 e.w9 1 (ow.map fun x=>[.bool x])
 fam:Fam g e.b (3*e.n+1) V' W
 nx:e.b<=g.nx
end
end
end Hx
end
section
namespace Hx
open Go
noncomputable section
structure MD (e:ME) (W:Nat->List (List AV)) (R:List (List Int)) (F N O:Nat->List Int):Prop where
 r:All2 (Rp.rp NoP 0 .nil) R (W 0)
 f:∀i,i<e.n->W (3*i+1)=(F i).map ci
 n:∀i,i<e.n->W (3*i+2)=(N i).map ci
 o:∀i,i<e.n->W (3*i+3)=(O i).map ci
theorem uE {α β γ:Type}{R:β->γ->Prop}{f:α->β}{h:α->γ}:∀{l:List α},(∀x∈l,R (f x) (h x))->All2 R (l.map f) (l.map h)
 | [],_=>trivial
 | a::l,hl=>⟨hl a (by simp),uE fun x hx=>hl x (by simp[hx])⟩
theorem SlR.wide {α:Type} [Rp α]{P:Nat->Prop}{k k':Nat}{h h':H}{l:List α}{v:AV}(r:SlR NoP k h l v)(hk:k<=k'):SlR P k' h' l v:=by
 obtain ⟨w,hw,q⟩:=Rp.tree (P:=P) (k':=k') (h':=h') (show Rp.rp NoP k h l [v] from ⟨v,rfl,r⟩) hk
 injection hw with hw;subst hw;exact q
structure M0 (n p4 q i5 p7:Nat) (nv w5 cl:AV) (row0:List AV) (prow:List (List AV)) (gr:Int) (g:G) (cf:Nat->Int):Prop where
 h0:g.h.get 0=.cells 5 [row0] 0 false false
 h1:g.h.get 1=.cells 3 [[.int .i64 0,.nils,.nils]] 0 false false
 hN:Own g 2 nv 4 (F3 n cf fun _=>.nils)
 h4:g.h.get p4=.cells 3 [[.int .i64 gr,.nils,nv]] 0 false false
 h5:Own g 2 w5 4 prow
 h7:g.h.get p7=.cells 2 [[cl,.int .i64 0]] 0 false false
 nx:p7<g.nx
section
variable {n p4 q i5 p7:Nat}{nv w5 cl:AV}{row0:List AV}{prow:List (List AV)}{gr:Int}{g g':G}{cf cf':Nat->Int}
end
end
end Hx
end
section
namespace Hx
open Go
noncomputable section
def eid:AV->Option Nat
 | .hsl id _ _ _ _=>some id
 | .hptr id _ _ _=>some id
 | _=>none
def Bx (g:G)(b:Nat)(v:AV)(row:List AV):Prop:=∃id,b<=id/\id<g.nx/\v=.hptr id 0 0 0/\g.h.get id=.cells row.length [row] 0 false false
inductive En where
 | sl (sz:Nat) (rows:List (List AV))
 | bx (row:List AV)
def En.ok (g:G)(b:Nat)(v:AV):En->Prop
 | .sl sz rows=>Own g b v sz rows
 | .bx row=>Bx g b v row
theorem bP {g:G}{b:Nat}{v:AV}{sz:Nat}{rows:List (List AV)}(h:Own g b v sz rows):eid v=vid v:=by
 rcases h with ⟨rfl,-⟩ | ⟨id,ep,lo,h1,h2,rfl,h3⟩<;>rfl
theorem En.lt {g:G}{b:Nat}{v:AV}{e:En}(h:e.ok g b v){i:Nat}(hi:eid v=some i):b<=i/\i<g.nx:=by
 cases e with
 | sl sz rows =>
  have h:Own g b v sz rows:=h
  rw[bP h] at hi;exact h.lt hi
 | bx row =>
  obtain ⟨id,h1,h2,rfl,h3⟩:=h
  injection hi with hi;subst hi;exact ⟨h1,h2⟩
theorem En.fr {g g':G}{b:Nat}{v:AV}{e:En}(h:e.ok g b v)(hn:g.nx<=g'.nx)(hf:∀i,eid v=some i->g'.h.get i=g.h.get i):e.ok g' b v:=by
 cases e with
 | sl sz rows =>
  have h:Own g b v sz rows:=h
  exact h.fr hn fun i hi=>hf i (by rw[bP h];exact hi)
 | bx row =>
  obtain ⟨id,h1,h2,rfl,h3⟩:=h
  exact ⟨id,h1,by omega,rfl,by rw[hf id rfl,h3]⟩
section
variable {κ:Type}
structure Hp (g:G) (b:Nat) (L:κ->Prop) (V:κ->AV) (E:κ->En):Prop where
 ok:∀k,L k->(E k).ok g b (V k)
 sep:∀k l,L k->L l->k≠l->∀id,eid (V k)=some id->eid (V l)≠some id
 nx:b<=g.nx
variable {g g':G}{b:Nat}{L L':κ->Prop}{V:κ->AV}{E:κ->En}{k:κ}
theorem Hp.sub (h:Hp g b L V E)(hl:∀k,L' k->L k):Hp g b L' V E:=⟨fun k hk=>h.ok k (hl k hk),fun k l hk hl2=>h.sep k l (hl k hk) (hl l hl2),h.nx⟩
theorem Hp.step (h:Hp g b L V E)(hn:g.nx<=g'.nx)(hf:∀i,b<=i->i<g.nx->g'.h.get i=g.h.get i):Hp g' b L V E :=
 ⟨fun k hk=>En.fr (h.ok k hk) hn fun i hi=>hf i (En.lt (h.ok k hk) hi).1 (En.lt (h.ok k hk) hi).2,h.sep,Nat.le_trans h.nx hn⟩
theorem Hp.same (h:Hp g b L V E)(hf:g'.h=g.h)(hn:g.nx<=g'.nx):Hp g' b L V E:=h.step hn fun i _ _=>by rw[hf]
theorem Hp.own (h:Hp g b L V E)(hk:L k){sz:Nat}{rows:List (List AV)}(he:E k=.sl sz rows):Own g b (V k) sz rows:=by
 have:=h.ok k hk;rw[he] at this;exact this
theorem Hp.box (h:Hp g b L V E)(hk:L k){row:List AV}(he:E k=.bx row):Bx g b (V k) row:=by
 have:=h.ok k hk;rw[he] at this;exact this
end
section
variable {κ:Type} [DecidableEq κ]
def ups {α:Type}(f:κ->α)(k:κ)(x:α):κ->α:=fun j=>if j=k then x else f j
theorem an {α:Type}(f:κ->α)(k:κ)(x:α):ups f k x k=x:=if_pos rfl
theorem ac {α:Type}(f:κ->α){k j:κ}(x:α)(h:j≠k):ups f k x j=f j:=if_neg h
theorem H9 {α:Type}{f:κ->α}{k:κ}{x:α}(h:f k=x):ups f k x=f:=by
 funext j;by_cases e:j=k
 ·subst e;rw[an,h]
 ·exact ac _ _ e
variable {g g':G}{b:Nat}{L L':κ->Prop}{V:κ->AV}{E:κ->En}{k:κ}
theorem Hp.set (h:Hp g b L V E){v':AV}{e':En}(hk:L k)(ho:e'.ok g' b v')(hn:g.nx<=g'.nx)(hf:∀i,b<=i->i<g.nx->eid (V k)≠some i->g'.h.get i=g.h.get i)
  (hv:eid v'=eid (V k)\/∃i,eid v'=some i/\g.nx<=i):Hp g' b L (ups V k v') (ups E k e'):=by
 refine ⟨fun j hj=>?_,fun j l hj hl hne id e1 e2=>?_,Nat.le_trans h.nx hn⟩
 ·by_cases e:j=k
  ·subst e;rw[an,an];exact ho
  ·rw[ac _ _ e,ac _ _ e]
   exact En.fr (h.ok j hj) hn fun i hi=>hf i (En.lt (h.ok j hj) hi).1 (En.lt (h.ok j hj) hi).2 fun e2=>h.sep j k hj hk e i hi e2
 ·have key:∀j,L j->j≠k->∀id,eid (V j)=some id->eid v'≠some id:=fun j hj hne id e1 e2=>by
   rcases hv with hv | ⟨i,hv,hi⟩
   ·exact h.sep j k hj hk hne id e1 (hv ▸ e2)
   ·rw[hv] at e2;injection e2 with e2;have:=(En.lt (h.ok j hj) e1).2;omega
  by_cases a:j=k
  ·subst a
   rw[an] at e1
   rw[ac _ _ (Ne.symm hne)] at e2
   exact key l hl (Ne.symm hne) id e2 e1
  ·rw[ac _ _ a] at e1
   by_cases c:l=k
   ·subst c;rw[an] at e2;exact key j hj a id e1 e2
   ·rw[ac _ _ c] at e2;exact h.sep j l hj hl hne id e1 e2
theorem Hp.add (h:Hp g b L V E){v':AV}{e':En}(hk:¬L k)(ho:e'.ok g' b v')(hn:g.nx<=g'.nx)(hf:∀i,b<=i->i<g.nx->g'.h.get i=g.h.get i)
  (hv:∀i,eid v'=some i->g.nx<=i) (hl:∀j,L' j->L j\/j=k):Hp g' b L' (ups V k v') (ups E k e'):=by
 refine ⟨fun j hj=>?_,fun j l hj hl2 hne id e1 e2=>?_,Nat.le_trans h.nx hn⟩
 ·rcases hl j hj with hj | rfl
  ·have e:j≠k:=fun e=>hk (e ▸ hj)
   rw[ac _ _ e,ac _ _ e]
   exact En.fr (h.ok j hj) hn fun i hi=>hf i (En.lt (h.ok j hj) hi).1 (En.lt (h.ok j hj) hi).2
  ·rw[an,an];exact ho
 ·have key:∀j,L j->∀id,eid (V j)=some id->eid v'≠some id:=fun j hj id e1 e2=>by
   have:=hv id e2;have:=(En.lt (h.ok j hj) e1).2;omega
  rcases hl j hj with hj | rfl
  ·have e:j≠k:=fun e=>hk (e ▸ hj)
   rw[ac _ _ e] at e1
   rcases hl l hl2 with hl2 | rfl
   ·have e':l≠k:=fun e=>hk (e ▸ hl2)
    rw[ac _ _ e'] at e2
    exact h.sep j l hj hl2 hne id e1 e2
   ·rw[an] at e2;exact key j hj id e1 e2
  ·rw[an] at e1
   rcases hl l hl2 with hl2 | rfl
   ·have e':l≠j:=fun e=>hne e.symm
    rw[ac _ _ e'] at e2
    exact key l hl2 id e2 e1
   ·exact hne rfl
theorem Hp.app (h:Hp g b L V E)(hk:L k){sz bytes:Nat}{rows new:List (List AV)}(he:E k=.sl sz rows){x:AV}{K:AV->G->Prop}{D:ADf->Prop}(hx:af g.h sz x=some new)
  (hr:(rows.length+new.length)*bytes<=aO)
  (kk:∀v' g',Hp g' b L (ups V k v') (ups E k (.sl sz (rows++new)))->g.nx<=g'.nx->(∀i,i<b->g'.h.get i=g.h.get i)->(∀i,i<g.nx->eid (V k)≠some i->g'.h.get i=g.h.get i)->(∀i∈g'.lg,i∈g.lg\/b<=i)->v'.cells=[v']->v'.isTup=false->K v' g') :
  (dk sz bytes (V k) x g).sat K g D:=by
 have ho:=h.own hk he
 refine cF ho hx h.nx hr fun v' g' hv' hn hf hvid hlg=>?_
 refine kk v' g' (h.set hk (e':=.sl sz (rows++new)) hv' hn (fun i _ hi hne=>hf i hi (by rw[<-bP ho];exact hne)) ?_) hn (fun i hi=>hf i (Nat.lt_of_lt_of_le hi h.nx) fun e=>by have:=(ho.lt e).1;omega)
  (fun i hi hne=>hf i hi (by rw[<-bP ho];exact hne)) hlg hv'.cell.1 hv'.cell.2
 rw[bP hv',bP ho];exact hvid
theorem Hp.put (h:Hp g b L V E)(hk:L k){sz n i off:Nat}{rows:List (List AV)}{row row':List AV}(he:E k=.sl sz rows){x:AV}{K:AV->G->Prop}{D:ADf->Prop}(hr:rows[i]?=some row)
  (hl:x.cells.length=n) (ht:x.isTup=false) (hp:bV row off x.cells=some row')
  (kk:∀g',Hp g' b L V (ups E k (.sl sz (rows.set i row')))->g'.nx=g.nx->(∀i,i<b->g'.h.get i=g.h.get i)->(∀i,eid (V k)≠some i->g'.h.get i=g.h.get i)->K .undef g'):(lC n (iQ sz (V k) i off) x g).sat K g D:=by
 have ho:=h.own hk he
 refine dB ho hr hl ht hp fun g' hv' hn hf=>?_
 have:=h.set hk (e':=.sl sz (rows.set i row')) hv' (by omega) (fun i _ hi hne=>hf i (by rw[<-bP ho];exact hne)) (.inl rfl)
 rw[H9 (f:=V) rfl] at this
 exact kk g' this hn (fun i hi=>hf i fun e=>by have:=(ho.lt e).1;omega) fun i hne=>hf i (by rw[<-bP ho];exact hne)
theorem Hp.putb (h:Hp g b L V E)(hk:L k){row row':List AV}(he:E k=.bx row){id:Nat}(hv:V k=.hptr id 0 0 0)(hl:row'.length=row.length):Hp (g.put id (.cells row.length [row'] 0 false false)) b L V (ups E k (.bx row')):=by
 obtain ⟨id',h1,h2,h3,h4⟩:=h.box hk he
 rw[hv] at h3;injection h3 with h3;subst h3
 have:=h.set (g':=g.put id (.cells row.length [row'] 0 false false)) hk (e':=.bx row') (v':=.hptr id 0 0 0) ⟨id,h1,by simpa using h2,rfl,by rw[hl];simp[aR]⟩ (by simp) (fun i _ hi hne=>by
  rw[G.put_h,ap _ _ _ (fun e=>hne (by rw[hv,e];rfl))]) (.inl (by rw[hv]))
 rw[H9 (f:=V) hv] at this
 exact this
end
end
end Hx
end
section
namespace Hx
open Go
noncomputable section
theorem jg {C:Cfg}{d:Nat}{rd:Option Nat}{l:List SI}{b:SC}{Q:QT}{t:T}{df:List ADf}{g:G}{P:PT}(h1:wpO C d rd l P t df g)(h2:∀t df g,P t df g->wp C d rd b Q t df g):wp C d rd (.seq (.ops l) b) Q t df g:=by
 rw[ei]
 have:wp C d rd (.ops l) (fun e t df g=>e=.norm/\P t df g) t df g:=by rw[Aq];simpa using h1
 refine bX _ this ?_
 rintro e t df g ⟨rfl,h⟩
 exact h2 t df g h
structure Bnd (K:Nat) (m:Causal):Prop where
 r:m.roots.length<=K
 rr:∀x∈m.roots,x.length<=K
 n:m.nodes.length<=K
 f:∀x∈m.nodes,x.frm.length<=K/\x.noise.length<=K/\x.out.length<=K
abbrev Ky:Type:=Nat×Nat
structure BD (K R n:Nat) (V:Ky->AV) (E:Ky->En) (Rt:Nat->List Int) (c:Nat->Int) (F:Nat->Nat->List Int):Prop where
 r:∀i,i<R->E (0,i)=.sl 1 ((Rt i).map ci)/\(Rt i).length<=K
 f:∀q i,1<=q->q<=3->i<n->E (q,i)=.sl 1 ((F q i).map ci)/\(F q i).length<=K
 rs:E (4,0)=.sl 1 ((List.range R).map fun i=>[V (0,i)])
 ns:E (4,1)=.sl 4 ((List.range n).map fun i=>[.int .i64 (c i),V (1,i),V (2,i),V (3,i)])
structure TI (g:G) (q:Nat) (m:Causal) (k1 k2 act u1 u2 u3:AV) (A B W:List Int):Prop where
 a1:g.h.get 1=.cells 1 [[act]] 0 false false
 a2:g.h.get 2=.cells 3 [[.nils,.nils,.nils]] 0 false false
 a4:g.h.get 4=.cells 4 [[.int .i64 m.grain,k1,k2,.int .i64 (S.bX m)]] 0 false false
 bq:g.h.get q=.cells 3 [[u1,u2,u3]] 0 false false
 o1:Own g 5 u1 1 (A.map ci)
 o2:Own g 5 u2 1 (B.map ci)
 o3:Own g 5 u3 1 (W.map ci)
 q5:5<=q/\q<g.nx
 n1:∀i,vid u1=some i->i≠q/\vid u2≠some i/\vid u3≠some i
 n2:∀i,vid u2=some i->i≠q/\vid u3≠some i
 n3:∀i,vid u3=some i->i≠q
section
variable {g g':G}{q:Nat}{m:Causal}{k1 k2 act u1 u2 u3:AV}{A B W:List Int}
end
end
end Hx
end
section
namespace Hx
open Go
noncomputable section
theorem jW {C:Cfg}{d:Nat}{rd:Option Nat}{a b:SC}{Q:QT}{t:T}{df:List ADf}{g:G}{P:PT}(h1:wp C d rd a (fun e t df g=>e=.norm/\P t df g) t df g)(h2:∀t df g,P t df g->wp C d rd b Q t df g):wp C d rd (.seq a b) Q t df g:=by
 rw[ei]
 refine bX _ h1 ?_
 rintro e t df g ⟨rfl,h⟩
 exact h2 t df g h
def S.bj (vals e:List Int)(i:Nat):Bool:=decide (e[i]?.getD 0<0) || decide (e[i]?.getD 0=vals[i]?.getD 0)
def S.bi (vals e:List Int):Bool:=(List.range e.length).all (S.bj vals e)
theorem SlR.far8 {α:Type} [Rp α]{P:Nat->Prop}{k:Nat}{h h':H}{l:List α}{v:AV}(r:SlR P k h l v)(hf:∀i,P i->h'.get i=h.get i):SlR P k h' l v:=by
 obtain ⟨w,e,q⟩:=Rp.mono (P':=P) (k':=k) (h':=h') (show Rp.rp P k h l [v] from ⟨v,rfl,r⟩) (fun i hi=>⟨hi,hf i hi⟩) (Nat.le_refl _)
 injection e with e;subst e;exact q
def S.b_ (s a:List Int):List Int:=(List.range s.length).map fun i=>if a[i]?.getD 0<0 then -1 else s[i]?.getD 0
theorem mb {α:Type}{C:α->Prop}{S:α->VS}{j:Nat}(h:∀a,Snb (S a) j):Snb (fun P k h v=>∃a,C a/\S a P k h v) j :=
 ⟨fun {P k hh v n} d r hn=>by
  obtain ⟨a,c,r⟩:=r
  obtain ⟨v',e,r'⟩:=(h a).snap d r hn
  exact ⟨v',e,a,c,r'⟩,fun {k hh v n} r hn=>by
  obtain ⟨a,c,r⟩:=r
  exact (h a).tag r hn⟩
theorem qW:∀{A L:List Nat},A.Nodup->(∀v∈A,v∈L)->A.length<=L.length
 | [],_,_,_=>Nat.zero_le _
 | a::A,L,hA,h=>by
  rw[List.nodup_cons] at hA
  have ha:=h a (by simp)
  have:=qW (A:=A) (L:=L.erase a) hA.2 fun v hv=>(List.mem_erase_of_ne (fun e=>hA.1 (by rw[<-e];exact hv))).2 (h v (by simp[hv]))
  rw[List.length_erase_of_mem ha] at this
  have:=List.length_pos_of_mem ha
  simp only[List.length_cons]
  omega
def Ord (p:List Nat)(L:List Nat):Prop:=(∀v,v<p.length->v∈L)/\∀(i v:Nat),L[i]?=some v->v<p.length/\∀q,(Par p v).testBit q=true->q∈L.take i
def Fq (p:List Nat)(L:List Nat):Prop:=L.Nodup/\∀(i v:Nat),L[i]?=some v->v<p.length/\∀q,(Par p v).testBit q=true->q∈L.take i
theorem GT {p L:List Nat}(h:Fq p L):L.length<=p.length:=by
 have:=qW (L:=List.range p.length) h.1 fun v hv=>by
  obtain ⟨i,hi,rfl⟩:=List.mem_iff_getElem.1 hv
  exact List.mem_range.2 (h.2 i _ (List.getElem?_eq_getElem hi)).1
 simpa using this
theorem FK {p L:List Nat}(h:Fq p L){v:Nat}(hv:v ∉ L)(hl:v<p.length)(hp:∀q,(Par p v).testBit q=true->q∈L):Fq p (L++[v]):=by
 refine ⟨?_,fun i u hu=>?_⟩
 ·rw[List.nodup_append]
  exact ⟨h.1,by simp,fun a ha b hb=>by simp at hb;subst hb;exact fun e=>hv (e ▸ ha)⟩
 ·rcases Nat.lt_or_ge i L.length with hi | hi
  ·rw[List.getElem?_append_left hi] at hu
   obtain ⟨h1,h2⟩:=h.2 i u hu
   exact ⟨h1,fun q hq=>by rw[List.take_append_of_le_length (by omega)];exact h2 q hq⟩
  ·rw[List.getElem?_append_right hi] at hu
   have:i=L.length:=by
    have:=(List.getElem?_eq_some_iff.1 hu).1;simp at this;omega
   subst this
   simp at hu;subst hu
   exact ⟨hl,fun q hq=>by rw[List.take_left];exact hp q hq⟩
theorem Fx {p L:List Nat}(h:Fq p L)(hl:p.length<=L.length):Ord p L:=by
 refine ⟨fun v hv=>?_,h.2⟩
 by_cases hm:v∈L
 ·exact hm
 ·have:=qW (A:=v::L) (L:=List.range p.length) (List.nodup_cons.2 ⟨hm,h.1⟩) fun u hu=>by
   rcases List.mem_cons.1 hu with rfl | hu
   ·exact List.mem_range.2 hv
   ·obtain ⟨i,hi,rfl⟩:=List.mem_iff_getElem.1 hu
    exact List.mem_range.2 (h.2 i _ (List.getElem?_eq_getElem hi)).1
  simp at this
  omega
theorem Jf {p L:List Nat}(h:Fq p L)(hl:L.length<p.length):∃v,v<p.length/\v ∉ L:=by
 by_cases hh:∃v,v<p.length/\v ∉ L
 ·exact hh
 ·exfalso
  have:=qW (A:=List.range p.length) (L:=L) List.nodup_range fun v hv=>by
   by_cases h':v∈L
   ·exact h'
   ·exact absurd ⟨v,List.mem_range.1 hv,h'⟩ hh
  simp at this
  omega
def J_ (D:Nat)(L:List Nat):Prop:=D<18446744073709551616/\∀v,D.testBit v=true↔v∈L
theorem ES {D:Nat}{L:List Nat}(h:J_ D L){v:Nat}(hv:v<64):J_ (D ||| S.aM v) (L++[v]):=by
 refine ⟨Ey h.1 (ud v),fun u=>?_⟩
 rw[rE,zG hv,Bool.or_eq_true,h.2,decide_eq_true_eq,List.mem_append,List.mem_singleton]
 constructor
 ·rintro (h | h)
  ·exact .inl h
  ·exact .inr h.symm
 ·rintro (h | h)
  ·exact .inl h
  ·exact .inr h.symm
theorem B2 {d k k2:Nat}{g:G}{P P2:Nat->Prop}{v w:AV}{vals e:List Int}(hd:0<d)(hv:SlR P k g.h vals v)(hw:SlR P2 k2 g.h e w)(hl:vals.length=e.length) :
  au C0 d N.aY [v,w] g=.val (.bool (S.bi vals e)):=by
 obtain ⟨v',e1,r1⟩:=aV hv d
 obtain ⟨w',e2,r2⟩:=aV hw d
 rw[sV]
 refine dy ul (xs:=[v',w']) (by simp only[aD,e1,e2]) (by simp[jL]) hd ?_
 simp only[sz,simprocAttr,jL,kX]
 refine a_ e.length hw.1 (fun j t df g=>df=[]/\St t [(0,v'),(1,w')]/\(List.range j).all (S.bj vals e)=true) ⟨rfl,by simp[St,sx],rfl⟩ (by simp[sx]) (by decide) (by rintro j t df g v s (rfl | rfl | rfl)<;>simp[St,sx]) ?_ ?_ ?_
 ·rintro j t df g hj ⟨rfl,⟨h0,h1,-⟩,hA⟩ h5
  have n1:dG .slice v' g=.val (.int .i64 (e.length:Int)):=by rw[(r1 .nil).len,hl]
  simp only[sz,simprocAttr,h0,h1,h5,n1,St,hA]
 ·rintro j t df g hj ⟨rfl,⟨h0,h1,-⟩,hA⟩ h5
  obtain ⟨x,hx,-,-⟩:=ae hj
  obtain ⟨y,hy,-,-⟩:=ae (l:=vals) (j:=j) (by omega)
  have q1:j<(e.map ci).length:=by simpa using hj
  have q2:j<(vals.map ci).length:=by rw[List.length_map];omega
  have q3:(e.map ci)[j]?=some (ci x):=by rw[List.getElem?_map,hx];rfl
  have q4:(vals.map ci)[j]?=some (ci y):=by rw[List.getElem?_map,hy];rfl
  have hat:S.bj vals e j=(decide (x<0) || decide (x=y)):=by simp[S.bj,hx,hy]
  have ra:∀h',af h' 1 v'=some (vals.map ci):=fun h'=>(r1 h').ints
  have rb:∀h',af h' 1 w'=some (e.map ci):=fun h'=>(r2 h').ints
  by_cases hx0:0<=x
  ·by_cases hxy:x=y
   ·simp only[sz,simprocAttr,h1,h5,rb,q1,q3,ci,hxy,St]
    have hx0:0<=y:=by omega
    simp only[sz,simprocAttr,hx0,h0,h1,h5,ra,rb,q1,q2,q3,q4,ci,hxy]
    rw[bF,hA,hat];simp[hxy]
   ·simp only[sz,simprocAttr,h0,h1,h5,ra,rb,q1,q2,q3,q4,ci,hx0,hxy]
    have:S.bj vals e j=false:=by rw[hat];simp;omega
    rw[S.bi,dY hj this]
  ·simp only[sz,simprocAttr,h0,h1,h5,rb,q1,q3,ci,hx0,St]
   rw[bF,hA,hat];simp;omega
 ·rintro t df g ⟨rfl,⟨h0,h1,-⟩,hA⟩
  simp only[sz,simprocAttr,lq]
  rw[S.bi,hA]
theorem J3 {g g':G}(hn:g.nx<=g'.nx)(h:∀i,i<g.nx->g'.h.get i=g.h.get i):Fr g g':=⟨hn,h⟩
theorem qw {C:Cfg}{d:Nat}{rd:Option Nat}{body:SC}{c ti k B b:Nat}{Q:QT}{m:Nat}{lim:Int}(hlim:lim=(m:Int))(hm:m<9223372036854775808)(J:Nat->PT){t:T}{df:List ADf}{g:G}
  (h0:J 0 t df g) (hi:tat t ti=.int .i64 0) (hc:c≠ti/\b≠B)
  (hJ:∀j t df g v s,s=c\/s=ti\/s=k->J j t df g->J j (dF t s v) df g)
  (step:∀j t df g,j<m->J j t df g->tat t ti=.int .i64 (j:Int)->wp C d rd body (kR (fun t df g=>J (j+1) t df g/\tat t ti=.int .i64 (j:Int)) b Q) t df g)
  (fin:∀t df g,J m t df g->Q (.exit B) t df g) :
  wpL (wp C d rd (.seq (.ops [o c (.bin .lss (.t ti) (.k (.int .i64 lim)))]) (.seq (.cond (.t c) .skip (.exit B)) (.seq (.blk b body) (.ops [o k (.bin .add (.t ti) (.k (.int .i64 1))),o ti (.mv (.t k))]))))) Q t df g:=by
 subst hlim
 obtain ⟨c1,c5⟩:=hc
 refine sI (fun n t df g=>∃j:Nat,n=m - j/\j<=m/\J j t df g/\tat t ti=.int .i64 (j:Int)) m ⟨0,by omega,by omega,h0,hi⟩ ?_
 rintro n t df g ⟨j,rfl,hj,hjj,h1⟩
 simp only[sz,simprocAttr,h1]
 refine ⟨fun hq=>?_,fun hq=>?_⟩
 ·have hlt:j<m:=by simpa using hq
  simp only[sx]
  refine bX _ (step j _ df g hlt (hJ _ _ _ _ _ _ (.inl rfl) hjj) (by simp only[jz];rw[if_neg (Ne.symm c1),h1])) fun e t df g h=>?_
  have key:J (j+1) t df g/\tat t ti=.int .i64 (j:Int)->wp C d rd (.ops [o k (.bin .add (.t ti) (.k (.int .i64 1))),o ti (.mv (.t k))])
    (kL (fun n t df g=>∃j:Nat,n=m - j/\j<=m/\J j t df g/\tat t ti=.int .i64 (j:Int)) (m - j) Q) t df g:=by
   rintro ⟨a1,a2⟩
   simp only[sz,simprocAttr,a2]
   refine ⟨_,?_,j+1,rfl,by omega,hJ _ _ _ _ _ _ (.inr (.inl rfl)) (hJ _ _ _ _ _ _ (.inr (.inr rfl)) a1),?_⟩
   ·omega
   ·rw[aF (by omega) (by omega)];rfl
  cases e with
  | norm=>exact key h
  | ret=>exact h
  | exit x =>
   rw[mc] at h
   rw[oY]
   split at h
   ·rename_i e;rw[if_pos e];exact key h
   ·rename_i e;rw[if_neg e];exact h
 ·have:j=m:=by simp at hq;omega
  subst this
  simp only[sx]
  exact fin _ _ _ (hJ _ _ _ _ _ _ (.inl rfl) hjj)
section
variable {m:Causal}{c1 c2 l w c9 v35 ls v48:AV}{al:List Int}{hid kk:Int}{p:Nat}
end
end
end Hx
end
section
namespace Hx
open Go
noncomputable section
theorem Cm (l:List Int)(j:Nat)(x:Int):(l.map ci).set j (ci x)=(l.set j x).map ci:=by rw[List.map_set]
theorem D2 {x y:Nat}(hy:0<y):cN .rem (.int .i64 (x:Int)) (.int .i64 (y:Int))=.val (.int .i64 ((x % y:Nat):Int)):=by
 rw[it .i64 (Int.natCast_nonneg x) (by omega),<-Int.natCast_emod]
theorem IS {x y:Nat}(hx:x<9223372036854775808)(hy:0<y):cN .quo (.int .i64 (x:Int)) (.int .i64 (y:Int))=.val (.int .i64 ((x / y:Nat):Int)):=by
 have hle:x / y<=x:=Nat.div_le_self _ _
 rw[DW .i64 (Int.natCast_nonneg x) (by omega),<-Int.natCast_ediv]
 generalize x / y=z at hle
 rw[aF (by omega) (by omega)]
def S.ba:List Int->Int
 | []=>0
 | x::l=>x+10000*S.ba l
theorem Le {w:AV}{l:List Int}{k:Nat}(hw:SlR NoP k .nil l w)(hne:l≠[]){c:Nat}(hc:c<=l.length) :
  ∃w',(∀g,nL 1 w none (some (.int .i64 (c:Int))) g=.val w')/\SlR NoP k .nil (l.take c) w':=by
 have hlt:(l.take c).length<9223372036854775808:=by have:=hw.1;rw[List.length_take];omega
 have h:=hw.2
 unfold SlV at h
 split at h
 ·exact absurd h hne
 ·exact absurd h hne
 ·rename_i t s rows
  obtain ⟨h0,h1,h2⟩:=h
  have hlen:=h2.len
  have hs:s=1:=by
   rcases h1 with e | e
   ·exact e
   ·rw[e] at hlen;simp at hlen;exact absurd hlen hne
  subst hs
  refine ⟨.tsl t 1 (rows.take c),fun g=>?_,hlt,h0,.inl rfl,h2.take c⟩
  show orV (match aW (ba rows) (ba rows) (some (.int .i64 (.ofNat c))) with
   | none=>none
   | some h=>match aW 0 h none with
    | none=>none
    | some l=>aq (Nat.beq 1 1) (some (.tsl t 1 (ii (h - l) (gH l rows)))) none)=_
  have:aW (ba rows) (ba rows) (some (.int .i64 (.ofNat c)))=some c:=by
   show aq (Nat.ble c (ba rows)) (some c) none=_
   rw[aa,if_pos]
   rw[ax,<-hlen];simp;omega
  rw[this]
  show orV (aq (Nat.beq 1 1) (some (AV.tsl t 1 (ii (c - 0) (gH 0 rows)))) none)=_
  rw[show Nat.beq 1 1=true from rfl,bif'_true,bc,bg,List.drop_zero,Nat.sub_zero];rfl
 ·exact h.1.elim
 ·exact h.elim
structure S.tI (bl:List Int) (n i:Nat) (V ai:Int) (k:Nat) (c:Int) (L:List Int):Prop where
 len:L.length=n
 rng:∀x∈L,0<=x/\x<10000
 zer:∀j,i+bl.length<=j->i+k<=j->L[j]?.getD 0=0
 kle:k<=bl.length+1
 c0:0<=c
 c1:c<10000
 ce:k=bl.length+1->c=0
 cs:k=0->c=0
 eq:S.ba L+c*10000 ^ (i+k)=V+ai*10000 ^ i*S.ba (bl.take k)
structure S.tO (al bl:List Int) (i:Nat) (L:List Int):Prop where
 len:L.length=al.length+bl.length
 rng:∀x∈L,0<=x/\x<10000
 zer:∀j,i+bl.length<=j->L[j]?.getD 0=0
 eq:S.ba L=S.ba (al.take i)*S.ba bl
structure S.mI (al bl:List Int) (i:Nat) (r:Int) (L:List Int):Prop where
 len:L.length=i
 rng:∀x∈L,0<=x/\x<10000
 r01:r=0\/r=1
 eq:S.ba L=S.ba (al.take i) - S.ba (bl.take i)+r*10000 ^ i
theorem GN {x y:Int}(h0:0<=x)(h1:x<9223372036854775808)(hy:0<y):cN .rem (.int .i64 x) (.int .i64 y)=.val (.int .i64 (x % y)):=by
 obtain ⟨n,rfl⟩:=Int.eq_ofNat_of_zero_le h0
 obtain ⟨m,rfl⟩:=Int.eq_ofNat_of_zero_le (by omega:0<=y)
 have:=D2 (x:=n) (y:=m) (by omega)
 rw[this,Int.natCast_emod]
theorem HT {x y:Int}(h0:0<=x)(h1:x<9223372036854775808)(hy:0<y):cN .quo (.int .i64 x) (.int .i64 y)=.val (.int .i64 (x / y)):=by
 obtain ⟨n,rfl⟩:=Int.eq_ofNat_of_zero_le h0
 obtain ⟨m,rfl⟩:=Int.eq_ofNat_of_zero_le (by omega:0<=y)
 have:=IS (x:=n) (y:=m) (by omega) (by omega)
 rw[this,Int.natCast_ediv]
structure S.qI (x b n:Nat) (i:Nat) (L:List Int):Prop where
 len:L.length=n
 rng:∀z∈L,0<=z/\z<10000
 eq:S.ba (L.drop i)=((x / 10000 ^ i / b:Nat):Int)
theorem SlR.wd {α:Type} [Rp α]{P P':Nat->Prop}{k:Nat}{h h':H}{l:List α}{v:AV}(r:SlR P k h l v)(hf:∀i,P i->P' i/\h'.get i=h.get i):SlR P' k h' l v:=by
 obtain ⟨w,hw,q⟩:=Rp.mono (k':=k) (P':=P') (h':=h') (show Rp.rp P k h l [v] from ⟨v,rfl,r⟩) hf (Nat.le_refl _)
 injection hw with hw;subst hw;exact q
abbrev P3:Nat->Prop:=fun i=>3<=i
structure HS (m:Causal) (c1 c2 la lb lc:AV) (p q:Nat) (gb g:G):Prop where
 fr:Fr gb g
 mp:g.h.get p=.cells 3 [[.int .i64 m.grain,c1,c2]] 0 false false
 ml:g.h.get q=.cells 3 [[la,lb,lc]] 0 false false
 pn:p<gb.nx
 q0:gb.nx<=q
 qn:q<g.nx
section
variable {m:Causal}{c1 c2 la lb lc w c28 vi c90 vj:AV}{A B Z:List Int}{p q:Nat}
end
end
end Hx
end
end
section
namespace Hx
open Go
section
variable {p:List Nat}
theorem E2:GM p 0:=⟨fun v _ hb=>by simp at hb,fun v _ hb=>by simp at hb⟩
theorem Gi {q:Nat}(ih:GM p q){j:Nat}(hj:j<64)(hd:Sub (Par p j) q):GM p (q ||| S.aM j):=by
 refine ⟨fun v hv hb=>?_,fun v hv hb=>?_⟩
 ·intro u hu
  rw[rE,zG hj,Bool.or_eq_true,decide_eq_true_eq] at hb
  rw[rE,Bool.or_eq_true]
  rcases hb with hb | hb
  ·exact .inl (ih.1 v hv hb u hu)
  ·subst hb;exact .inl (hd u hu)
 ·rw[rE,zG hj,Bool.or_eq_true,decide_eq_true_eq] at hb
  cases hq:q.testBit v
  ·rw[hq] at hb
   simp at hb
   subst hb
   rw[<-Bool.not_eq_true]
   intro hu
   have:=C4 ih.1 hd p.length j hu
   rw[hq] at this;cases this
  ·exact ih.2 v hv hq
theorem At {q:Nat}(h:GM p q)(hf:∀v,v<p.length->q.testBit v=true):S.aP p=true :=
 vS.2 fun v hv=>h.2 v hv (hf v hv)
theorem zO (hp:∀x∈p,x<2 ^ p.length)(h:S.aP p=true){T:Nat}(hst:∀v,v<p.length->T.testBit v=false->¬Sub (Par p v) T):∀v,v<p.length->T.testBit v=true:=by
 rw[vS] at h
 have none:∀r v,v<p.length->T.testBit v=false->S.up p (Par p v) p.length=r->False:=by
  intro r
  induction r using Nat.strongRecOn with
  | _ r ih =>
   intro v hv hb hr
   have hns:=hst v hv hb
   have:∃u,(Par p v).testBit u=true/\T.testBit u=false:=by
    apply Classical.byContradiction
    intro hno
    apply hns
    intro u hu
    cases hc:T.testBit u
    ·exact absurd ⟨u,hu,hc⟩ hno
    ·rfl
   obtain ⟨u,hu,hub⟩:=this
   have hul:u<p.length:=Ha (Dc hp) hu
   have hcl:=FM hp (s:=Par p v) (Dc hp)
   have hin:(S.up p (Par p v) p.length).testBit u=true:=zx _ u hu
   have hsub:Sub (S.up p (Par p u) p.length) (S.up p (Par p v) p.length):=C4 hcl (hcl u hul hin) _
   have hlt:S.up p (Par p u) p.length<S.up p (Par p v) p.length:=by
    refine Nat.lt_of_le_of_ne (KG hsub) fun e=>?_
    have:=h u hul
    rw[e,hin] at this;cases this
   exact ih _ (by omega) u hul hub rfl
 intro v hv
 cases hc:T.testBit v
 ·exact (none _ v hv hc rfl).elim
 ·rfl
end
end Hx
end
section
namespace Hx
open Go
theorem xu:∀a b:List Int,S.ae (a++b)=S.ae a*S.ae b
 | [],b=>by simp[S.ae]
 | x::a,b=>by rw[List.cons_append,cS,cS,xu a b,Int.mul_assoc]
theorem zt:∀{a va:List Int} (b vb:List Int),a.length=va.length->S.af (a++b) (va++vb)=S.af a va*S.ae b+S.af b vb
 | [],[],b,vb,_=>by simp[S.af]
 | [],_::_,_,_,h=>by simp at h
 | _::_,[],_,_,h=>by simp at h
 | c::a,v::va,b,vb,h=>by
  rw[List.cons_append,List.cons_append,S.af,S.af,zt b vb (by simpa using h),xu,Int.add_mul,Int.mul_assoc]
  omega
theorem AT:∀{cs vs:List Int} (a:Int),(∀c∈cs,1<=c)->InC cs vs->S.aS cs (a*S.ae cs+S.af cs vs)=a
 | [],[],a,_,_=>by simp[S.aS,S.ae,S.af]
 | [],_::_,_,_,h=>by cases h
 | _::_,[],_,_,h=>by cases h
 | c::cs,v::vs,a,hc,h=>by
  obtain ⟨⟨h1,h2⟩,h3⟩:=h
  have ih:=AT (cs:=cs) (vs:=vs) (a*c+v) (fun x hx=>hc x (by simp[hx])) h3
  have e:a*S.ae (c::cs)+S.af (c::cs) (v::vs)=(a*c+v)*S.ae cs+S.af cs vs:=by
   rw[cS,S.af,Int.add_mul,Int.mul_assoc];omega
  rw[e]
  show S.aS cs _ / c=a
  rw[ih,Int.add_comm,Int.add_mul_ediv_right _ _ (by omega),Int.ediv_eq_zero_of_lt h1 h2];omega
theorem zd:∀{cs vs:List Int} (a:Int) (i:Nat),(∀c∈cs,1<=c)->InC cs vs->i<cs.length->S.aQ cs (a*S.ae cs+S.af cs vs) i=vs[i]?.getD 0
 | [],_,_,_,_,_,hi=>by simp at hi
 | _::_,[],_,_,_,h,_=>by cases h
 | c::cs,v::vs,a,i,hc,h,hi=>by
  obtain ⟨⟨h1,h2⟩,h3⟩:=h
  have hc':∀x∈cs,1<=x:=fun x hx=>hc x (by simp[hx])
  have e:a*S.ae (c::cs)+S.af (c::cs) (v::vs)=(a*c+v)*S.ae cs+S.af cs vs:=by
   rw[cS,S.af,Int.add_mul,Int.mul_assoc];omega
  rw[e]
  cases i with
  | zero =>
   show S.aS cs _ % c=v
   rw[AT _ hc' h3,Int.add_comm,Int.add_mul_emod_self_right,Int.emod_eq_of_lt h1 h2]
  | succ i =>
   have:=zd (a*c+v) i hc' h3 (by simpa using hi)
   simpa [S.aQ] using this
theorem CK {cs vs:List Int}(hc:∀c∈cs,1<=c)(h:InC cs vs):S.ak cs (S.af cs vs)=vs:=by
 have hl:=h.len
 refine List.ext_getElem (by simp[S.ak,hl]) fun i h1 h2=>?_
 have hi:i<cs.length:=by simpa [S.ak] using h1
 have:=zd 0 i hc h hi
 rw[Int.zero_mul,Int.zero_add,List.getElem?_eq_getElem h2,Option.getD_some] at this
 simp[S.ak,this]
theorem cY {cs:List Int}(hc:∀c∈cs,1<=c)(h:Int):InC cs (S.ak cs h):=by
 refine Al (by simp[S.ak]) fun i c v h1 h2=>?_
 have hi:=(List.getElem?_eq_some_iff.1 h1).1
 rw[S.ak,List.getElem?_map,List.getElem?_range hi,Option.map_some,Option.some.injEq] at h2
 have hcc:=hc c (List.mem_of_getElem? h1)
 rw[<-h2,S.aQ,h1,Option.getD_some]
 exact ⟨Int.emod_nonneg _ (by omega),Int.emod_lt_of_pos _ (by omega)⟩
theorem oe (cs:List Int)(h:Int):(S.ak cs h).length=cs.length:=by simp[S.ak]
theorem yU:∀{cs:List Int},(∀c∈cs,1<=c)->1<=S.ae cs
 | [],_=>by decide
 | c::cs,h=>by
  rw[cS]
  have h1:=h c (by simp)
  have h2:=yU (cs:=cs) fun x hx=>h x (by simp[hx])
  exact Int.le_trans h1 (by have:=Int.mul_le_mul_of_nonneg_left h2 (show 0<=c by omega);omega)
theorem wG:∀(cs:List Int) (n:Nat),S.af cs (List.replicate n 0)=0
 | [],n=>by cases n<;>rfl
 | _::_,0=>rfl
 | c::cs,n+1=>by rw[List.replicate_succ,S.af,wG cs n];simp
theorem Ab:∀{cs vs:List Int},cs.length=vs.length->(∀(i:Nat) (c:Int),cs[i]?=some c->vs[i]?.getD 0=c - 1)->S.af cs vs=S.ae cs - 1
 | [],[],_,_=>by decide
 | [],_::_,h,_=>by simp at h
 | _::_,[],h,_=>by simp at h
 | c::cs,v::vs,hl,h=>by
  have h0:=h 0 c rfl
  have ih:=Ab (cs:=cs) (vs:=vs) (by simpa using hl) fun i x hx=>by have:=h (i+1) x (by simpa using hx);simpa using this
  simp at h0
  rw[S.af,ih,cS,h0,Int.sub_mul];omega
theorem Hk {cs vs:List Int}(hl:cs.length=vs.length){i:Nat}{x:Int}(hi:vs[i]?=some x)(hm:∀(j:Nat) (c:Int),i<j->cs[j]?=some c->vs[j]?.getD 0=c - 1) :
  S.af cs (vs.take i++(x+1)::List.replicate (vs.length - (i+1)) 0)=S.af cs vs+1:=by
 have hil:=(List.getElem?_eq_some_iff.1 hi).1
 obtain ⟨c,hc⟩:∃c,cs[i]?=some c:=⟨_,List.getElem?_eq_getElem (by omega)⟩
 have e1:cs=cs.take i++c::cs.drop (i+1):=by
  have:=List.drop_eq_getElem_cons (l:=cs) (i:=i) (by omega)
  rw[List.getElem?_eq_getElem (by omega),Option.some.injEq] at hc
  rw[<-hc,<-this,List.take_append_drop]
 have e2:vs=vs.take i++x::vs.drop (i+1):=by
  have:=List.drop_eq_getElem_cons (l:=vs) (i:=i) hil
  rw[List.getElem?_eq_getElem hil,Option.some.injEq] at hi
  rw[<-hi,<-this,List.take_append_drop]
 have hlt:(cs.take i).length=(vs.take i).length:=by simp[hl]
 have hmx:S.af (cs.drop (i+1)) (vs.drop (i+1))=S.ae (cs.drop (i+1)) - 1:=by
  refine Ab (by simp[hl]) fun j d hj=>?_
  rw[List.getElem?_drop] at hj ⊢
  exact hm _ d (by omega) hj
 have h1:S.af cs vs=S.af (cs.take i) (vs.take i)*S.ae (c::cs.drop (i+1))+(x*S.ae (cs.drop (i+1))+S.af (cs.drop (i+1)) (vs.drop (i+1))):=by
  conv=>lhs;rw[e1,e2,zt _ _ hlt,S.af]
 have h2:S.af cs (vs.take i++(x+1)::List.replicate (vs.length - (i+1)) 0)=S.af (cs.take i) (vs.take i)*S.ae (c::cs.drop (i+1))+((x+1)*S.ae (cs.drop (i+1))+0):=by
  conv=>lhs;rw[e1,zt _ _ hlt,S.af,wG]
 rw[h2,h1,hmx,Int.add_mul]
 omega
end Hx
end
section
namespace Hx
open Go
def S.aa (n:Net):List Int:=n.nodes.map (·.card)
def S.ac (cs ps:List Int):List Int:=ps.map fun p=>cs[p.toNat]?.getD 0
def S.an (n:Net):List Nat:=n.nodes.map fun x=>S.ap x.parents
def S.ay (gr card:Int)(r:List Int):Bool:=decide ((r.length:Int)=card)&&r.all (fun x=>decide (0<=x)&&decide (x<=gr))&&decide (r.sum=gr)
def S.aU (k:Int)(x:Node):Bool:=decide (1<=x.card)&&decide (x.card<=4)&&S.aq x.parents k
def S.bc (n:Net)(x:Node):Bool:=decide ((x.rows.length:Int)=S.ae (S.ac (S.aa n) x.parents))&&x.rows.all (S.ay n.grain x.card)
def S.aB (n:Net):Bool:=decide (1<=n.grain)&&decide (n.grain<=60)&&decide (1<=n.nodes.length)&&decide (n.nodes.length<=8)&&n.nodes.all (S.aU n.nodes.length)&&decide (S.ae (S.aa n)<=1024)&&S.aP (S.an n)&&n.nodes.all (S.bc n)
structure NR (n:Net):Prop where
 g1:1<=n.grain
 g2:n.grain<=60
 l1:1<=n.nodes.length
 l2:n.nodes.length<=8
 card:∀x∈n.nodes,1<=x.card/\x.card<=4
 places:∀x∈n.nodes,S.aq x.parents n.nodes.length=true
 worlds:S.ae (S.aa n)<=1024
 acyc:S.aP (S.an n)=true
 rows:∀x∈n.nodes,(x.rows.length:Int)=S.ae (S.ac (S.aa n) x.parents)
 row:∀x∈n.nodes,∀r∈x.rows,(r.length:Int)=x.card/\(∀y∈r,0<=y/\y<=n.grain)/\r.sum=n.grain
theorem iZ {n:Net}:S.aB n=true↔NR n:=by
 simp only[S.aB,S.aU,S.bc,S.ay,Bool.and_eq_true,decide_eq_true_eq,List.all_eq_true]
 constructor
 ·rintro ⟨⟨⟨⟨⟨⟨⟨a,b⟩,c⟩,d⟩,e⟩,f⟩,g⟩,h⟩
  exact ⟨a,b,c,d,fun x hx=>(e x hx).1,fun x hx=>(e x hx).2,f,g,fun x hx=>(h x hx).1,fun x hx r hr=>⟨((h x hx).2 r hr).1.1,((h x hx).2 r hr).1.2,((h x hx).2 r hr).2⟩⟩
 ·rintro ⟨a,b,c,d,e1,e2,f,g,h1,h2⟩
  exact ⟨⟨⟨⟨⟨⟨⟨a,b⟩,c⟩,d⟩,fun x hx=>⟨e1 x hx,e2 x hx⟩⟩,f⟩,g⟩,fun x hx=>⟨h1 x hx,fun r hr=>⟨⟨(h2 x hx r hr).1,(h2 x hx r hr).2.1⟩,(h2 x hx r hr).2.2⟩⟩⟩
theorem bZ {l:List Int}{k:Int}(h:S.aq l k=true):∀x∈l,0<=x/\x<k:=by
 intro x hx
 obtain ⟨i,hi,he⟩:=List.mem_iff_getElem.1 hx
 have:=List.all_eq_true.1 h i (List.mem_range.2 hi)
 have e:l[i]?.getD 0=x:=by rw[List.getElem?_eq_getElem hi,he];rfl
 simp only[S.aI,Bool.and_eq_true,decide_eq_true_eq,e] at this
 omega
theorem xl {l:List Int}{k:Int}(h:S.aq l k=true){i:Nat}{x y:Int}(hx:l[i]?=some x)(hy:l[i+1]?=some y):x<y:=by
 have hi:=(List.getElem?_eq_some_iff.1 hy).1
 have:=List.all_eq_true.1 h (i+1) (List.mem_range.2 hi)
 simp only[S.aI,Bool.and_eq_true,decide_eq_true_eq,hy,Option.getD_some,Nat.add_sub_cancel,hx] at this
 simp at this
 omega
theorem cX {l:List Int}{k:Int}(h:S.aq l k=true)(hk:0<=k):(l.length:Int)<=k:=by
 have key:∀(i:Nat) (x:Int),l[i]?=some x->(i:Int)<=x:=by
  intro i
  induction i with
  | zero=>intro x hx;have:=bZ h x (List.mem_of_getElem? hx);omega
  | succ i ih =>
   intro x hx
   have hi:=(List.getElem?_eq_some_iff.1 hx).1
   have h1:=ih l[i] (List.getElem?_eq_getElem (by omega))
   have:=xl h (List.getElem?_eq_getElem (show i<l.length by omega)) hx
   omega
 by_cases hl:l.length=0
 ·omega
 ·have h1:=key (l.length - 1) l[l.length - 1] (List.getElem?_eq_getElem (by omega))
  have h2:=bZ h _ (List.getElem_mem (show l.length - 1<l.length by omega))
  omega
theorem NR.cs {n:Net}(h:NR n):∀c∈S.aa n,1<=c/\c<=4:=fun c hc=>by
 obtain ⟨x,hx,rfl⟩:=List.mem_map.1 hc
 exact h.card x hx
theorem ay (n:Net):(S.aa n).length=n.nodes.length:=by simp[S.aa]
theorem cA {cs ps:List Int}(hc:∀c∈cs,1<=c/\c<=4)(hp:∀p∈ps,0<=p/\p<cs.length):∀c∈S.ac cs ps,1<=c/\c<=4:=fun c h=>by
 obtain ⟨p,h1,rfl⟩:=List.mem_map.1 h
 have h2:=hp p h1
 rw[List.getElem?_eq_getElem (by omega),Option.getD_some]
 exact hc _ (List.getElem_mem _)
theorem eP {cs ps vals:List Int}(h:InC cs vals)(hp:∀p∈ps,0<=p/\p<cs.length):InC (S.ac cs ps) (S.ac vals ps):=by
 refine Al (by simp[S.ac]) fun i c v h1 h2=>?_
 simp only[S.ac,List.getElem?_map,Option.map_eq_some_iff] at h1 h2
 obtain ⟨p,h3,rfl⟩:=h1
 obtain ⟨p',h4,rfl⟩:=h2
 rw[h3] at h4
 injection h4 with h4
 subst h4
 have h5:=hp p (List.mem_of_getElem? h3)
 have h6:cs[p.toNat]?=some cs[p.toNat]:=List.getElem?_eq_getElem (by omega)
 obtain ⟨v,h7,h8⟩:=h.get h6
 rw[h6,h7,Option.getD_some,Option.getD_some]
 exact h8
theorem C5 (cs a b:List Int):S.ac cs (a++b)=S.ac cs a++S.ac cs b:=by simp[S.ac]
def S.aE (n:Net)(vals:List Int)(v:Nat):Int:=match n.nodes[v]? with
 | none=>1
 | some x=>(x.rows[(S.af (S.ac (S.aa n) x.parents) (S.ac vals x.parents)).toNat]?.getD [])[(vals[v]?.getD 0).toNat]?.getD 0
def S.bA (n:Net)(vals:List Int):Int:=S.ae ((List.range n.nodes.length).map (S.aE n vals))
theorem NR.pin {n:Net}(h:NR n){x:Node}(hx:x∈n.nodes):∀p∈x.parents,0<=p/\p<(S.aa n).length:=fun p hp=>by rw[ay];exact bZ (h.places x hx) p hp
theorem xD {n:Net}(h:NR n){vals:List Int}(hv:InC (S.aa n) vals){v:Nat}{x:Node}(hx:n.nodes[v]?=some x) :
  ∃(i:Nat) (r:List Int) (c y:Int),S.af (S.ac (S.aa n) x.parents) (S.ac vals x.parents)=(i:Int)/\i<x.rows.length/\x.rows[i]?=some r/\vals[v]?=some c/\0<=c/\c<x.card/\r[c.toNat]?=some y/\S.aE n vals v=y/\0<=y/\y<=n.grain:=by
 have hm:=List.mem_of_getElem? hx
 have hi:=cT (cA h.cs (h.pin hm)) (eP hv (h.pin hm))
 rw[<-h.rows x hm] at hi
 obtain ⟨i,he⟩:=Int.eq_ofNat_of_zero_le hi.1
 have hil:i<x.rows.length:=by omega
 have hc:(S.aa n)[v]?=some x.card:=by simp[S.aa,hx]
 obtain ⟨c,h1,h2,h3⟩:=hv.get hc
 obtain ⟨r1,r2,-⟩:=h.row x hm x.rows[i] (List.getElem_mem hil)
 have hcl:c.toNat<(x.rows[i]).length:=by omega
 refine ⟨i,x.rows[i],c,(x.rows[i])[c.toNat],he,hil,List.getElem?_eq_getElem hil,h1,h2,h3,List.getElem?_eq_getElem hcl,?_,r2 _ (List.getElem_mem hcl)⟩
 simp only[S.aE,hx,he,h1,Int.toNat_natCast,List.getElem?_eq_getElem hil,Option.getD_some,List.getElem?_eq_getElem hcl]
theorem s6:∀{l:List Int},(∀x∈l,0<=x/\x<=60)->0<=S.ae l/\S.ae l<=60 ^ l.length
 | [],_=>by decide
 | x::l,h=>by
  have h1:=s6 (l:=l) fun y hy=>h y (by simp[hy])
  have h2:=h x (by simp)
  rw[cS,List.length_cons,Int.pow_succ,Int.mul_comm x]
  refine ⟨Int.mul_nonneg h1.1 h2.1,Int.le_trans (Int.mul_le_mul_of_nonneg_left h2.2 h1.1) (Int.mul_le_mul_of_nonneg_right h1.2 (by decide))⟩
theorem K3 {k:Nat}(h:k<=8):(60:Int) ^ k<=167961600000000:=by
 have hk:k=0\/k=1\/k=2\/k=3\/k=4\/k=5\/k=6\/k=7\/k=8:=by omega
 rcases hk with rfl | rfl | rfl | rfl | rfl | rfl | rfl | rfl | rfl<;>decide
theorem Ft {n:Net}(h:NR n){vals:List Int}(hv:InC (S.aa n) vals){v:Nat}(hi:v<n.nodes.length):0<=S.aE n vals v/\S.aE n vals v<=60:=by
 obtain ⟨i,r,c,y,-,-,-,-,-,-,-,e,a,b⟩:=xD h hv (List.getElem?_eq_getElem hi)
 have:=h.g2
 omega
theorem mz {n:Net}(h:NR n){vals:List Int}(hv:InC (S.aa n) vals){j:Nat}(hj:j<=n.nodes.length):0<=S.ae ((List.range j).map (S.aE n vals))/\S.ae ((List.range j).map (S.aE n vals))<=167961600000000:=by
 have h1:=s6 (l:=(List.range j).map (S.aE n vals)) fun x hx=>by
  obtain ⟨i,hi,rfl⟩:=List.mem_map.1 hx
  exact Ft h hv (by have:=List.mem_range.1 hi;omega)
 have h2:=K3 (k:=((List.range j).map (S.aE n vals)).length) (by have:=h.l2;simp;omega)
 omega
theorem rZ (n:Net)(vals:List Int)(j:Nat):S.ae ((List.range (j+1)).map (S.aE n vals))=S.ae ((List.range j).map (S.aE n vals))*S.aE n vals j:=by
 rw[List.range_succ,List.map_append,List.map_singleton,rk]
def S.aL (n:Net)(p:Nat->Bool):Nat->Int
 | 0=>0
 | j+1=>S.aL n p j+if p j then S.bA n (S.ak (S.aa n) (j:Int)) else 0
theorem mD {n:Net}(h:NR n){vals:List Int}(hv:InC (S.aa n) vals):0<=S.bA n vals/\S.bA n vals<=167961600000000:=mz h hv (Nat.le_refl _)
theorem wT {n:Net}(h:NR n)(p:Nat->Bool):∀j:Nat,0<=S.aL n p j/\S.aL n p j<=167961600000000*j
 | 0=>by simp[S.aL]
 | j+1=>by
  have ih:=wT h p j
  have hw:=mD h (cY (fun c hc=>(h.cs c hc).1) (j:Int))
  rw[S.aL]
  split<;>omega
def S.ah (n:Net):Nat:=(S.ae (S.aa n)).toNat
def S.bJ (n:Net)(e:List Int):Int:=S.aL n (fun w=>S.bi (S.ak (S.aa n) (w:Int)) e) (S.ah n)
theorem NR.wl {n:Net}(h:NR n):1<=S.ah n/\S.ah n<=1024/\((S.ah n:Nat):Int)=S.ae (S.aa n):=by
 have h1:=yU fun c hc=>(h.cs c hc).1
 have h2:=h.worlds
 unfold S.ah
 omega
def S.aD (n:Net)(e:List Int):Bool:=decide (e.length=n.nodes.length)&&(List.range e.length).all fun v=>decide (-1<=e[v]?.getD 0)&&decide (e[v]?.getD 0<(S.aa n)[v]?.getD 0)
def S.aK (n:Net)(e:List Int):Int:=if S.aB n then (if S.aD n e then 0 else 2) else 50
end Hx
end
section
namespace Hx
open Go
section
variable {b card:Nat}
def S.bI (b card p:Nat):Nat:=p / (b*card)*b+p % b
def S.bH (b card p:Nat):Nat:=p / b % card
def S.bP (rows:List (List Int))(b card t:Nat):List Int:=(List.range (rows.length*card)).map fun p=>if S.bI b card p*card+S.bH b card p<t then (rows[S.bI b card p]?.getD [])[S.bH b card p]?.getD 0 else 0
def S.bY (rows:List (List Int))(b card:Nat):List Int:=(List.range (rows.length*card)).map fun p=>(rows[S.bI b card p]?.getD [])[S.bH b card p]?.getD 0
end
def S.bM (ps:List Int)(k:Nat)(v:Int):List Int:=ps.take k++v::ps.drop k
end Hx
end
section
namespace Hx
open Go
noncomputable section
abbrev zD:Type:=UInt8×UInt8×List UInt8
abbrev sA:Type:=UInt8×List zD×List UInt8
abbrev jU:Type:=UInt8×UInt8×UInt8×Int
theorem yQ {P:Nat->Prop}{k:Nat}{h:H}{x:zD}{cs:List AV}:Rp.rp P k h x cs↔∃a,cs=[u8v x.1,u8v x.2.1,a]/\SlR P k h x.2.2 a:=by
 constructor
 ·rintro ⟨c1,c2,rfl,h1,c3,c4,rfl,h2,⟨a,rfl,h4⟩⟩
  rw[dj.1 h1,dj.1 h2];exact ⟨a,rfl,h4⟩
 ·rintro ⟨a,rfl,h4⟩
  exact ⟨[_],[_,a],rfl,dj.2 rfl,[_],[a],rfl,dj.2 rfl,⟨a,rfl,h4⟩⟩
theorem ut {P:Nat->Prop}{k:Nat}{h:H}{x:sA}{cs:List AV}:Rp.rp P k h x cs↔∃a b,cs=[u8v x.1,a,b]/\SlR P k h x.2.1 a/\SlR P k h x.2.2 b:=by
 constructor
 ·rintro ⟨c1,c2,rfl,h1,c3,c4,rfl,⟨a,rfl,ha⟩,⟨b,rfl,hb⟩⟩
  rw[dj.1 h1];exact ⟨a,b,rfl,ha,hb⟩
 ·rintro ⟨a,b,rfl,ha,hb⟩
  exact ⟨[_],[a,b],rfl,dj.2 rfl,[a],[b],rfl,⟨a,rfl,ha⟩,⟨b,rfl,hb⟩⟩
theorem wU {P:Nat->Prop}{k:Nat}{h:H}{x:jU}{cs:List AV}:Rp.rp P k h x cs↔cs=[u8v x.1,u8v x.2.1,u8v x.2.2.1,.int .i64 x.2.2.2]:=by
 constructor
 ·rintro ⟨c1,c2,rfl,h1,c3,c4,rfl,h2,c5,c6,rfl,h3,h4⟩
  rw[dj.1 h1,dj.1 h2,dj.1 h3,aU.1 h4];rfl
 ·rintro rfl
  exact ⟨[_],[_,_,_],rfl,dj.2 rfl,[_],[_,_],rfl,dj.2 rfl,[_],[_],rfl,dj.2 rfl,aU.2 rfl⟩
theorem Av {d k k2:Nat}{g:G}{P P2:Nat->Prop}{v w:AV}{l p:List Int}(hd:0<d)(hv:SlR P k g.h l v)(hw:SlR P2 k2 g.h p w)(hp:p.length<1073741824)(hin:∀x∈p,0<=x/\x<l.length) :
  ∃r,au C0 d N.ah [v,w] g=.val r/\IT 0 (S.ac l p) r:=by
 obtain ⟨v',e1,r1⟩:=aV hv d
 obtain ⟨w',e2,r2⟩:=aV hw d
 rw[yb]
 refine bp A4 (xs:=[v',w']) (by simp only[aD,e1,e2]) (by simp[sU]) (bi _) (by decide) hd ?_
 simp only[sz,simprocAttr,sU]
 have n2:=fun g=>(r2 .nil).len g
 have ra:∀h',af h' 1 v'=some (l.map ci):=fun h'=>(r1 h').ints
 have rb:∀h',af h' 1 w'=some (p.map ci):=fun h'=>(r2 h').ints
 refine rq (v:=w') (m:=p.length) (by omega) n2 (fun j t df g=>df=[]/\St t [(0,v')]/\∃u,tat t 5=u/\Own g 0 u 1 ((S.ac l (p.take j)).map ci)) ⟨rfl,by simp[St,sx],_,rfl,.inl ⟨by simp[sx],by simp[S.ac]⟩⟩ (by simp[sx]) (by simp[sx]) (by decide)
  (by rintro j t df g v s (rfl | rfl | rfl | rfl | rfl | rfl | rfl)<;>simp[sx,St]) ?_ ?_
 ·rintro j t df g1 hj ⟨rfl,⟨h0,-⟩,u,h5,hu⟩ h6 h1
  obtain ⟨x,hx,htk,hm⟩:=ae hj
  obtain ⟨hx0,hxl⟩:=hin x hm
  obtain ⟨n,rfl⟩:=Int.eq_ofNat_of_zero_le hx0
  have hn:n<l.length:=by omega
  simp only[sz,simprocAttr,ra,rb,h0,h1,h5,h6,hx,hj,hn,List.length_map,List.getElem?_map,Option.map_some,ci,List.getElem?_eq_getElem hn]
  refine cF (new:=[ci l[n]]) (hu.step (Fr.new _ _)) (by simp[sx,sy,ci]) (by simp) (by simp[aO,S.ac];omega) fun v2 g2 hv2 n2 f2 _ l2=>?_
  simp only[sz,simprocAttr,h0,h1,h6,St]
  refine ⟨_,rfl,?_⟩
  rw[htk]
  simpa [hn,ci,S.ac] using hv2
 ·rintro t df g1 ⟨rfl,⟨h0,-⟩,u,h5,hu⟩ -
  rw[List.take_length] at hu
  simp only[sz,simprocAttr,rN,h5]
  exact ⟨_,hu.ints (by simp[S.ac];omega)⟩
theorem q7 {d k:Nat}{g:G}{P:Nat->Prop}{v:AV}{n:Net}(hd:0<d)(hm:Agg n P k g.h v)(hn:n.nodes.length<1073741824) :
  ∃r,au C0 d N.an [v] g=.val r/\IT 0 (S.aa n) r:=by
 obtain ⟨v',e,cs,rfl,hc⟩:=jM (dI n) (by decide) d hm
 obtain ⟨b,rfl,hN⟩:=ck.1 hc
 obtain ⟨rows,r1,r2,r3,r4⟩:=hN.all
 have r1:∀h',af h' 3 b=some rows:=r1
 rw[uH]
 refine bp v_ (xs:=[.agg [.int .i64 n.grain,b]]) (by simp only[aD,e]) (by simp[mr]) (bi _) (by decide) hd ?_
 simp only[sz,simprocAttr,mr,pd,nB]
 refine a_ n.nodes.length (by omega) (fun j t df g=>df=[]/\tat t 1=.hptr 0 0 0 0/\g.h.get 0=.cells 2 [[.int .i64 n.grain,b]] 0 false false/\1<=g.nx/\∃u,tat t 3=u/\Own g 1 u 1 (((n.nodes.take j).map (·.card)).map ci))
  ⟨rfl,by simp[sx],by simp[sx],by simp[sx],_,rfl,.inl ⟨by simp[sx],rfl⟩⟩ (by simp[sx]) (by decide)
  (by rintro j t df g v s (rfl | rfl | rfl)<;>simp[sx]) ?_ ?_ ?_
 ·rintro j t df g hj ⟨rfl,h1,hg,hnx,u,h3,hu⟩ h4
  simp only[sz,simprocAttr,h1,h4,hg,hN.len]
  exact ⟨hnx,u,h3,hu⟩
 ·rintro j t df g hj ⟨rfl,h1,hg,hnx,u,h3,hu⟩ h4
  obtain ⟨x,hx,htk,hm⟩:=ae hj
  obtain ⟨row,q1,q2⟩:=r3 j x hx
  obtain ⟨a',b',rfl,ha',-⟩:=bM.1 q2
  have hlt:j<rows.length:=by omega
  have hry:=r4 (by omega)
  simp only[sz,simprocAttr,h1,h3,h4,hg,r1,hlt,q1,hry]
  refine cF (new:=[ci x.card]) (hu.step (Fr.new _ _)) (by simp[sx,sy,ci]) (by simp) (by simp[aO];omega) fun v2 g2 hv2 n2 f2 _ l2=>?_
  simp only[sz,simprocAttr,h1,h4]
  refine ⟨?_,?_,_,rfl,?_⟩
  ·rw[f2 0 (by simp) (fun e=>by have:=(hu.lt e).1;omega),G.new_h,ap _ _ _ (by omega),hg]
  ·simp at n2;omega
  ·rw[htk]
   simpa [ci] using hv2
 ·rintro t df g ⟨rfl,h1,hg,hnx,u,h3,hu⟩
  rw[List.take_length] at hu
  simp only[sz,simprocAttr,nX,h3]
  exact ⟨_,hu.ints (by simp;omega)⟩
theorem FY {d k:Nat}{g:G}{P:Nat->Prop}{v:AV}{n:Net}(hd:0<d)(hm:Agg n P k g.h v)(hn:n.nodes.length<1073741824)(hp:∀x∈n.nodes,∀y∈x.parents,0<=y/\y<18446744073709551616) :
  ∃r,au C0 d N.ba [v] g=.val r/\UT 0 (S.an n) r:=by
 obtain ⟨v',e,cs,rfl,hc⟩:=jM (dI n) (by decide) d hm
 obtain ⟨b,rfl,hN⟩:=ck.1 hc
 obtain ⟨rows,r1,r2,r3,r4⟩:=hN.all
 have r1:∀h',af h' 3 b=some rows:=r1
 rw[pA]
 refine bp rC (xs:=[.agg [.int .i64 n.grain,b]]) (by simp only[aD,e]) (by simp[gk]) (bi _) (by decide) hd ?_
 simp only[sz,simprocAttr,gk,jm]
 refine a_ n.nodes.length (by omega) (fun j t df g=>df=[]/\tat t 1=.hptr 0 0 0 0/\g.h.get 0=.cells 2 [[.int .i64 n.grain,b]] 0 false false/\1<=g.nx/\∃u,tat t 3=u/\Own g 1 u 1 (((n.nodes.take j).map fun x=>S.ap x.parents).map cu))
  ⟨rfl,by simp[sx],by simp[sx],by simp[sx],_,rfl,.inl ⟨by simp[sx],rfl⟩⟩ (by simp[sx]) (by decide)
  (by rintro j t df g v s (rfl | rfl | rfl)<;>simp[sx]) ?_ ?_ ?_
 ·rintro j t df g hj ⟨rfl,h1,hg,hnx,u,h3,hu⟩ h4
  simp only[sz,simprocAttr,h1,h4,hg,hN.len]
  exact ⟨hnx,u,h3,hu⟩
 ·rintro j t df g hj ⟨rfl,h1,hg,hnx,u,h3,hu⟩ h4
  obtain ⟨x,hx,htk,hm⟩:=ae hj
  obtain ⟨row,q1,q2⟩:=r3 j x hx
  obtain ⟨a',b',rfl,ha',-⟩:=bM.1 q2
  have hlt:j<rows.length:=by omega
  have hry:=r4 (by omega)
  simp only[sz,simprocAttr]
  refine a_ x.parents.length ha'.1 (fun i t df g'=>df=[]/\St t [(1,.hptr 0 0 0 0),(4,.int .i64 j),(3,u),(5,.int .u64 (S.ap (x.parents.take i):Int))]/\g'=g)
   ⟨rfl,by simp[sx,St,S.ap,h1,h3,h4],rfl⟩ (by simp[sx]) (by decide)
   (by rintro j t df g v s (rfl | rfl | rfl)<;>simp[sx,St]) ?_ ?_ ?_
  ·rintro i t df g' hi ⟨rfl,⟨h1,h4,h3,h5,-⟩,rfl⟩ h6
   simp only[sz,simprocAttr,h1,h3,h4,h5,h6,hg,r1,hlt,q1,hry,ha'.len,St]
  ·rintro i t df g' hi ⟨rfl,⟨h1,h4,h3,h5,-⟩,rfl⟩ h6
   obtain ⟨y,hy,htk2,hm2⟩:=ae hi
   obtain ⟨hy0,hy1⟩:=hp x hm y hm2
   obtain ⟨n,rfl⟩:=Int.eq_ofNat_of_zero_le hy0
   simp only[sz,simprocAttr,h1,h3,h4,h5,h6,hg,r1,hlt,q1,hry,(ha'.tree (h':=g'.h) (Nat.le_refl _)).ints,hi,hy,List.length_map,List.getElem?_map,Option.map_some,ci,qR hy0 hy1,qp,Au _ _ (q_ _) (ud _),St]
   rw[htk2,zg];rfl
  ·rintro t df g' ⟨rfl,⟨h1,h4,h3,h5,-⟩,rfl⟩
   rw[List.take_length] at h5
   simp only[sz,simprocAttr,iI,h3,h5]
   refine cF (new:=[cu (S.ap x.parents)]) (hu.step (Fr.new _ _)) (by simp[sx,sy,cu]) (by simp) (by simp[aO];omega) fun v2 g2 hv2 n2 f2 _ l2=>?_
   simp only[sz,simprocAttr,h1,h4]
   refine ⟨?_,?_,_,rfl,?_⟩
   ·rw[f2 0 (by simp) (fun e=>by have:=(hu.lt e).1;omega),G.new_h,ap _ _ _ (by omega),hg]
   ·simp at n2;omega
   ·rw[htk]
    simpa [cu] using hv2
 ·rintro t df g ⟨rfl,h1,hg,hnx,u,h3,hu⟩
  rw[List.take_length] at hu
  simp only[sz,simprocAttr,iH,h3]
  exact ⟨_,hu.nats (by simp;omega) (by simp only[List.mem_map];rintro x ⟨y,-,rfl⟩;exact q_ _)⟩
theorem uh {d k:Nat}{g:G}{P:Nat->Prop}{v:AV}{n:Net}{i:Nat}{x:Node}(hd:0<d)(hm:Agg n P k g.h v)(hn:n.nodes.length<1073741824)(hx:n.nodes[i]?=some x)(hl:x.parents.length<1073741824)(hin:∀p∈x.parents,0<=p/\p<n.nodes.length) :
  ∃r,au C0 d N.au [v,.int .i64 (i:Int)] g=.val r/\IT 0 (S.ac (S.aa n) x.parents) r:=by
 obtain ⟨v',e,cs,rfl,hc⟩:=jM (dI n) (by decide) d hm
 have hc':=hc
 obtain ⟨b,rfl,hN⟩:=ck.1 hc
 have hm':∀h,Agg n NoP (max k d) h (.agg [.int .i64 n.grain,b]):=fun h=>⟨_,rfl,Rp.tree hc' (Nat.le_refl _)⟩
 obtain ⟨rows,r1,r2,r3,r4⟩:=hN.all
 have r1:∀h',af h' 3 b=some rows:=r1
 obtain ⟨row,q1,q2⟩:=r3 i x hx
 obtain ⟨a',b',rfl,ha',-⟩:=bM.1 q2
 have hil:=(List.getElem?_eq_some_iff.1 hx).1
 have hlt:i<rows.length:=by omega
 have hry:=r4 (by omega)
 rw[oq]
 refine bp qt (xs:=[.agg [.int .i64 n.grain,b],.int .i64 (i:Int)]) (by simp only[aD,e,eW 0]) (by simp[fK]) (bi _) (by decide) hd ?_
 simp only[sz,simprocAttr,fK,iF]
 refine bo (q7 (Nat.succ_pos d) (hm' _) hn) fun rc hrc=>?_
 have hat:=fun g=>Av (d:=d+1) (g:=g) (P:=NoP) (P2:=NoP) (k:=0) (k2:=max k d) (l:=S.aa n) (p:=x.parents) (Nat.succ_pos d) (hrc.sl g.h) (ha'.tree (h':=g.h) (Nat.le_refl _)) hl (fun p hp=>by rw[ay];exact hin p hp)
 simp only[sz,simprocAttr,r1,hlt,q1,hry]
 refine bo (hat _) fun r hr=>?_
 simp only[sz,simprocAttr]
 obtain ⟨w,hw,hs⟩:=hr
 exact ⟨_,w,hw,hs.tree (Nat.le_refl _)⟩
theorem tC {d k:Nat}{g:G}{P:Nat->Prop}{v:AV}{l:List Int}(hd:0<d)(hv:SlR P k g.h l v):au C0 d N.af [v] g=.val (.int .i64 (S.aO l)):=by
 have b:=Dq hv.ints
 have:=IK hd (Fz hv.ints) (by rw[b];exact hv.1)
 rwa [b] at this
theorem CC {d k:Nat}{g:G}{P:Nat->Prop}{v:AV}{n:Net}(hd:0<d)(hm:Agg n P k g.h v)(hr:NR n):au C0 d N.bA [v] g=.val (.int .i64 (S.ah n:Int)):=by
 have hl2:=hr.l2
 obtain ⟨v',e,cs,rfl,hc⟩:=jM (dI n) (by decide) d hm
 have hm':∀h,Agg n NoP (max k d) h (.agg cs):=fun h=>⟨_,rfl,Rp.tree hc (Nat.le_refl _)⟩
 obtain ⟨b,rfl,hN⟩:=ck.1 hc
 rw[tR]
 refine eZ uZ (xs:=[.agg [.int .i64 n.grain,b]]) (by simp only[aD,e]) (by simp[kG]) hd ?_
 simp only[sz,simprocAttr,kG,nG]
 refine bo (q7 (Nat.succ_pos d) (hm' _) (by omega)) fun rc hrc=>?_
 have hs:=fun g=>tC (d:=d+1) (g:=g) (P:=NoP) (k:=0) (Nat.succ_pos d) (hrc.sl g.h)
 rw[kf hr.cs (by rw[ay];omega),<-hr.wl.2.2] at hs
 simp only[sz,simprocAttr,hs]
theorem we {d k:Nat}{g:G}{P:Nat->Prop}{v:AV}{n:Net}{w:Nat}(hd:0<d)(hm:Agg n P k g.h v)(hr:NR n)(hw:w<9223372036854775808):∃r,au C0 d N.aK [v,.int .i64 (w:Int)] g=.val r/\IT 0 (S.ak (S.aa n) (w:Int)) r:=by
 have hl2:=hr.l2
 obtain ⟨v',e,cs,rfl,hc⟩:=jM (dI n) (by decide) d hm
 have hm':∀h,Agg n NoP (max k d) h (.agg cs):=fun h=>⟨_,rfl,Rp.tree hc (Nat.le_refl _)⟩
 obtain ⟨b,rfl,hN⟩:=ck.1 hc
 rw[th]
 refine bp vq (xs:=[.agg [.int .i64 n.grain,b],.int .i64 (w:Int)]) (by simp only[aD,e,eW 0]) (by simp[kC]) (bi _) (by decide) hd ?_
 simp only[sz,simprocAttr,kC,m7]
 refine bo (q7 (Nat.succ_pos d) (hm' _) (by omega)) fun rc hrc=>?_
 simp only[sz,simprocAttr]
 refine bo (Fh (d:=d+1) (P:=NoP) (k:=0) (l:=S.aa n) (h:=(w:Int)) (Nat.succ_pos d) (hrc.sl _) (by rw[ay];omega) (fun c hc=>by have:=hr.cs c hc;omega) ⟨Int.natCast_nonneg w,by omega⟩) fun r hr2=>?_
 simp only[sz,simprocAttr]
 obtain ⟨w,hw,hs⟩:=hr2
 exact ⟨_,w,hw,hs.tree (Nat.le_refl _)⟩
end
end Hx
end
