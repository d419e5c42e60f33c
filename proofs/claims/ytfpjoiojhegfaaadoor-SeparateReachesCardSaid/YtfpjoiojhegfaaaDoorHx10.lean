/- A part of the proof: an interpreter over abstract values, shown right against the model, and what the functions of the chapter compute on it. -/
import Derived.OpenShut
import Derived.DataReads
import Derived.Test.YtfpjoiojhegfaaaDoorHx9
set_option linter.unusedVariables false
set_option linter.unusedSimpArgs false
set_option linter.unnecessarySimpa false
section
namespace Hx
open Go
noncomputable section
theorem uT {d k2:Nat}{g:G}{P2:Nat->Prop}{v w:AV}{p c l:List Nat}(hd:0<d)(hm:Agg ((p,c):List Nat×List Nat) NoP 0 g.h v)(hw:SlR P2 k2 g.h l w)(n8:p.length<=8) :
  aE C0 d N.ak [v,w] g=.val (.bool (S.ah p.length l 0)):=by
 have e0:=oU d hm
 obtain ⟨cs,rfl,hcs⟩:=hm
 obtain ⟨_,_,rfl,ha,hb⟩:=dz.1 hcs
 obtain ⟨pa,rfl,hpa⟩:=aS.1 ha
 obtain ⟨ch,rfl,hch⟩:=aS.1 hb
 obtain ⟨w',e2,r2⟩:=cP hw d
 have hlt:=bj hw
 have hl:=hw.1
 have hpa:SlR NoP 0 .nil p pa:=hpa.tree (Nat.le_refl 0)
 have lp:=hpa.len
 have wl:=(r2 .nil).len
 have lg1:aA (.cells 2 [[pa,ch]] 0 false false) 0 0 false 1 0=.val pa:=rfl
 rw[e8]
 refine eX f7 (xs:=[.agg ([pa]++[ch]),w']) (by simp only[aF,e0,e2]) (by simp[bF]) hd ?_
 simp only[sz,simprocAttr,bF,cD,List.cons_append,List.nil_append,wl]
 simp only[cq]
 refine eF (m:=l.length) hl (fun j t df g=>df=[]/\g.h.get 0=.cells 2 [[pa,ch]] 0 false false/\∃a:Nat,a<18446744073709551616/\S.ah p.length (l.drop j) a=S.ah p.length l 0/\St t [(2,.hptr 0 0 0 0),(8,w'),(5,.int .u64 (a:Int))]) ⟨rfl,by simp[sx,H.get_put],0,by decide,rfl,by simp[St,sx]⟩ (by simp[sx]) (by simp[sx]) (by decide)
  (by rintro j t df g v s (rfl | rfl | rfl)<;>simp[sx,St]) ?_ ?_
 ·rintro j t df g hj ⟨rfl,g0,a,ha,hS,h2,h8,h5,-⟩ h10 h9
  obtain ⟨x,hx,-,hm⟩:=bU hj
  have hxl:=hlt x hm
  have z1:j<(l.map cu).length:=by simpa using hj
  have z2:(l.map cu)[j]?=some (cu x):=by rw[List.getElem?_map,hx];rfl
  have rt:=fun h=>(r2 h).nats
  rw[pQ hx] at hS
  by_cases c:x<2 ^ p.length
  ·by_cases c2:x &&& a=0
   ·simp only[sz,simprocAttr,h2,h5,h8,h10,g0,lg1,lp,rt,z1,z2,cu,a9 _ _ _ hxl,gU,c,bT x a hxl ha,c2,fe a x ha hxl]
    refine ⟨⟨a ||| x,vC ha hxl,?_,by simp[St,sx,h2,h8]⟩,h9⟩
    rw[<-hS,p8 c c2]
   ·simp only[sz,simprocAttr,h2,h5,h8,h10,g0,lg1,lp,rt,z1,z2,cu,a9 _ _ _ hxl,gU,c,bT x a hxl ha,show ¬((x &&& a:Nat):Int)=0 from by omega]
    rw[<-hS,su c2]
  ·simp only[sz,simprocAttr,h2,h5,h8,h10,g0,lg1,lp,rt,z1,z2,cu,a9 _ _ _ hxl,gU,c]
   rw[<-hS,rW c]
 ·rintro t df g ⟨rfl,g0,a,-,hS,-⟩
  simp only[sz,simprocAttr,ct]
  rw[<-hS,List.drop_length];rfl
theorem u_ {p:List Nat}(hp:∀x∈p,x<2 ^ p.length):Chl p (S.aF p):=by
 refine ⟨qR,fun v u=>?_⟩
 by_cases h:v<p.length
 ·have:(S.aF p)[v]?.getD 0=S.aa (Eg p v) p.length:=by simp[S.aF,h]
  rw[this,gy]
  exact ⟨fun h=>h.2,fun h=>⟨(jm hp h).2,h⟩⟩
 ·have:(S.aF p)[v]?=none:=List.getElem?_eq_none (by rw[qR];omega)
  rw[this]
  constructor
  ·intro h';simp at h'
  ·intro h';exact absurd (jm hp h').1 h
theorem w4 {d:Nat}{g:G}{v':AV}{p:List Nat}(hd:0<d)(hv:SlR NoP 0 .nil p v'):aE C0 d N.aK [v'] g=.val (.int .i64 (S.ae p [])):=by
 have e:=kU (h:=g.h) d (hv.tree (h':=g.h) (Nat.le_refl 0))
 rw[jO]
 refine fq lO (xs:=[v']) (by simp only[aF,e]) (by simp[eH]) hd ?_
 simp only[sz,simprocAttr,eH]
 refine nM (nR (Nat.succ_pos d) hv) fun z hz=>?_
 obtain ⟨a,b,rfl,⟨cs,rfl,hcs⟩,hb⟩:=hz
 obtain ⟨_,_,rfl,ha,hb2⟩:=dz.1 hcs
 obtain ⟨pa,rfl,-⟩:=aS.1 ha
 obtain ⟨ch,rfl,-⟩:=aS.1 hb2
 obtain rfl:b=.int .i64 (if S.au p then (0:Int) else 70):=by simpa using fM.1 hb
 simp only[sz,simprocAttr,List.cons_append,List.nil_append]
 simp only[S.ae,S.ah,↓reduceIte]
def okT (E:Nat->Nat->Prop)(Z:Nat->Prop)(u v w:Nat):Prop:=(E u v/\E w v->An E Z v)/\(¬(E u v/\E w v)->¬Z v)
theorem xH {E:Nat->Nat->Prop}{Z:Nat->Prop}:∀{l:List Nat},opL E Z l↔∀k w v u,l[k]?=some w->l[k+1]?=some v->l[k+2]?=some u->okT E Z u v w
 | []=>⟨fun _ k w v u h=>by simp at h,fun _=>trivial⟩
 | [a]=>⟨fun _ k w v u _ h=>by simp at h,fun _=>trivial⟩
 | w::v::r=>by
  have ih:=xH (E:=E) (Z:=Z) (l:=v::r)
  constructor
  ·rintro ⟨h1,h2⟩ k w' v' u' e1 e2 e3
   cases k with
   | zero =>
    simp at e1 e2 e3
    subst e1 e2
    cases r with
    | nil=>simp at e3
    | cons u r =>
     simp at e3
     subst e3
     exact h1
   | succ k=>exact ih.1 h2 k w' v' u' (by simpa using e1) (by simpa using e2) (by simpa using e3)
  ·intro h
   refine ⟨?_,ih.2 fun k w' v' u' e1 e2 e3=>h (k+1) w' v' u' (by simpa using e1) (by simpa using e2) (by simpa using e3)⟩
   cases r with
   | nil=>exact trivial
   | cons u r=>exact h 0 w v u rfl rfl rfl
theorem zh {E:Nat->Nat->Prop}{Z:Nat->Prop}{tr:List Nat}:opL E Z tr.reverse↔∀i u v w,1<=i->tr[i - 1]?=some u->tr[i]?=some v->tr[i+1]?=some w->okT E Z u v w:=by
 rw[xH]
 have key:∀{i:Nat} {x:Nat},tr[i]?=some x->tr.reverse[tr.length - 1 - i]?=some x/\i<tr.length:=fun {i x} h=>by
  have hi:=(List.getElem?_eq_some_iff.1 h).1
  refine ⟨?_,hi⟩
  rw[List.getElem?_reverse (by omega),<-h]
  congr 1
  omega
 constructor
 ·intro h i u v w hi e1 e2 e3
  obtain ⟨a1,b1⟩:=key e1
  obtain ⟨a2,b2⟩:=key e2
  obtain ⟨a3,b3⟩:=key e3
  refine h (tr.length - 1 - (i+1)) w v u a3 ?_ ?_
  ·rw[<-a2];congr 1;omega
  ·rw[<-a1];congr 1;omega
 ·intro h k w v u e1 e2 e3
  have l1:=(List.getElem?_eq_some_iff.1 e3).1
  rw[List.length_reverse] at l1
  rw[List.getElem?_reverse (by omega)] at e1 e2 e3
  refine h (tr.length - 1 - (k+1)) u v w (by omega) ?_ e2 ?_
  ·rw[<-e3];congr 1
  ·rw[<-e1];congr 1;omega
theorem zH {p q:Nat->Prop}{n:Nat}:S.aa p n ||| S.aa q n=S.aa (fun i=>p i\/q i) n :=
 nV fun i=>by
  rw[Nat.testBit_or,Bool.or_eq_true,gy,gy]
  exact ⟨fun h=>h.elim (fun ⟨a,b⟩=>⟨a,.inl b⟩) fun ⟨a,b⟩=>⟨a,.inr b⟩,fun ⟨a,b⟩=>b.elim (fun b=>.inl ⟨a,b⟩) fun b=>.inr ⟨a,b⟩⟩
theorem AK {q:Nat->Prop}{n v:Nat}(hv:v<n)(h:∀i,q i↔i=v):S.aa q n=2 ^ v:=by
 rw[zi (p:=fun _=>False) hv fun i=>by rw[h];exact ⟨.inr,fun h=>h.elim (fun h=>h.elim) id⟩,jn (fun _ _ h=>h),Nat.zero_or]
def cn (i:Nat):Int:=(i:Int)
theorem mr {l:List Nat}{i x:Nat}(h:l[i]?=some x):((l.map cn).map ci)[i]?=some (ci (x:Int)):=by rw[List.getElem?_map,List.getElem?_map,h];rfl
theorem ox {s v:Nat}:S.aH s v=s.testBit v:=jD s v
theorem Aa {d k k2:Nat}{g:G}{P P2:Nat->Prop}{v w:AV}{p tr:List Nat}{i a b c:Nat}(hd:0<d)(hv:SlR P k g.h p v)(hw:SlR P2 k2 g.h (tr.map cn) w)(hi:1<=i)(h1:tr[i - 1]?=some a)(h2:tr[i]?=some b)(h3:tr[i+1]?=some c)(hn:p.length<=8)(ha:a<p.length)(hb:b<p.length)(hc:c<p.length) :
  aE C0 d N.aH [v,w,.int .i64 (i:Int)] g=.val (.bool ((Par p b).testBit a&&(Par p b).testBit c)):=by
 obtain ⟨v',e,r1⟩:=cP hv d
 obtain ⟨w',e2,r2⟩:=cP hw d
 have hlt:=bj hv
 have hl1:=hw.1
 rw[List.length_map] at hl1
 have l3:=(List.getElem?_eq_some_iff.1 h3).1
 rw[jQ]
 refine eX lG (xs:=[v',w',.int .i64 (i:Int)]) (by simp only[aF,e,e2,cV]) (by simp[eE]) hd ?_
 have hpb:p[b]?=some (Par p b):=by simp[Par,List.getElem?_eq_getElem hb]
 have hpl:=hlt _ (List.mem_of_getElem? hpb)
 have rp:=fun h=>(r1 h).nats
 have rt:=fun h=>(r2 h).ints
 have u1:b<(p.map cu).length:=by simpa using hb
 have u2:(p.map cu)[b]?=some (cu (Par p b)):=by rw[List.getElem?_map,hpb];rfl
 have q1:=mr h1
 have q2:=mr h2
 have q3:=mr h3
 have z1:i - 1<((tr.map cn).map ci).length:=by simp;omega
 have z2:i<((tr.map cn).map ci).length:=by simp;omega
 have z3:i+1<((tr.map cn).map ci).length:=by simp;omega
 have w1:IntKind.wrap .i64 ((i:Int) - 1)=((i - 1:Nat):Int):=by rw[fd (by omega) (by omega)];omega
 have w2:IntKind.wrap .i64 ((i:Int)+1)=((i+1:Nat):Int):=by rw[fd (by omega) (by omega)];omega
 have kI1:∀g,aE C0 (d+1) N.aa [.int .u64 (Par p b:Int),.int .i64 (a:Int)] g=.val (.bool ((Par p b).testBit a)):=fun g=>by rw[kY (Nat.succ_pos d) hpl (by omega),ox]
 have kI2:∀g,aE C0 (d+1) N.aa [.int .u64 (Par p b:Int),.int .i64 (c:Int)] g=.val (.bool ((Par p b).testBit c)):=fun g=>by rw[kY (Nat.succ_pos d) hpl (by omega),ox]
 simp only[sz,simprocAttr,sf,eE,rp,rt,u1,u2,q1,q2,q3,z1,z2,z3,w1,w2,cu,ci,kI1]
 cases (Par p b).testBit a with
 | true=>simp only[sz,simprocAttr,sf,rp,rt,u1,u2,q1,q2,q3,z1,z2,z3,w1,w2,cu,ci,kI2,Bool.true_and]
 | false=>simp only[sz,simprocAttr,sf,Bool.false_and]
def S.aI (p:List Nat)(zs:Nat)(tr:List Nat):Bool:=@decide (opL (Eg p) (Bt zs) tr.reverse) (Classical.propDecidable _)
theorem nb {p:List Nat}{zs:Nat}{tr:List Nat}:S.aI p zs tr=true↔opL (Eg p) (Bt zs) tr.reverse:=by
 rw[S.aI,@decide_eq_true_iff]
theorem BJ {p:List Nat}{zs:Nat}{tr:List Nat}(h:¬opL (Eg p) (Bt zs) tr.reverse):S.aI p zs tr=false:=by
 cases e:S.aI p zs tr with
 | false=>rfl
 | true=>exact absurd (nb.1 e) h
theorem Aq {d k k2:Nat}{g:G}{P P2:Nat->Prop}{v w:AV}{p tr:List Nat}{zs:Nat}(hd:0<d)(hv:SlR P k g.h p v)(hw:SlR P2 k2 g.h (tr.map cn) w)(hp:∀x∈p,x<2 ^ p.length)(hn:p.length<=8)(ht:∀x∈tr,x<p.length)(hz:zs<2 ^ p.length) :
  aE C0 d N.aF [v,w,.int .u64 (zs:Int)] g=.val (.bool (S.aI p zs tr)):=by
 obtain ⟨v',e,r1⟩:=cP hv d
 obtain ⟨w',e2,r2⟩:=cP hw d
 have hl1:=hw.1
 rw[List.length_map] at hl1
 have h256:=kw hn
 rw[mU]
 refine eX o9 (xs:=[v',w',.int .u64 (zs:Int)]) (by simp only[aF,e,e2,cV]) (by simp[ik]) hd ?_
 have rt:=fun h=>(r2 h).ints
 have wl:∀g,eV .slice w' g=.val (.int .i64 (tr.length:Int)):=fun g=>by rw[(r2 .nil).len g,List.length_map]
 simp only[sz,simprocAttr,ik]
 refine ol (fun n t df g=>df=[]/\∃i:Nat,n=tr.length - i/\1<=i/\(i=1\/i+1<=tr.length)/\St t [(0,v'),(1,w'),(2,.int .u64 (zs:Int)),(7,.int .i64 (i:Int))]/\∀k u v w,1<=k->k<i->tr[k - 1]?=some u->tr[k]?=some v->tr[k+1]?=some w->okT (Eg p) (Bt zs) u v w) (tr.length - 1)
  ⟨rfl,1,rfl,by omega,by omega,by simp[St,sx],fun k u v w h1 h2=>by omega⟩ ?_
 rintro n t df g ⟨rfl,i,rfl,hi,hil,⟨h0,h1,h2,h7,-⟩,hall⟩
 have w2:IntKind.wrap .i64 ((i:Int)+1)=((i+1:Nat):Int):=by rw[fd (by omega) (by omega)];omega
 simp only[iK,iO]
 by_cases hlt:i+1<tr.length
 ·obtain ⟨a,ha⟩:∃a,tr[i - 1]?=some a:=⟨_,List.getElem?_eq_getElem (by omega)⟩
  obtain ⟨b,hb⟩:∃b,tr[i]?=some b:=⟨_,List.getElem?_eq_getElem (by omega)⟩
  obtain ⟨c,hc⟩:∃c,tr[i+1]?=some c:=⟨_,List.getElem?_eq_getElem (by omega)⟩
  have hal:=ht a (List.mem_of_getElem? ha)
  have hbl:=ht b (List.mem_of_getElem? hb)
  have hcl:=ht c (List.mem_of_getElem? hc)
  have q2:=mr hb
  have z2:i<((tr.map cn).map ci).length:=by simp;omega
  have c1:((i+1:Nat):Int)<(tr.length:Int):=by omega
  have kC:=fun g=>Aa (d:=d+1) (g:=g) (Nat.succ_pos d) (r1 g.h) (r2 g.h) hi ha hb hc hn hal hbl hcl
  have h2b:(2:Nat) ^ b<2 ^ p.length:=Nat.pow_lt_pow_right (by decide) hbl
  have kD:=fun g=>Aw (d:=d+1) (g:=g) (s:=2 ^ b) (Nat.succ_pos d) (r1 g.h) hn h2b
  have kI:∀g,aE C0 (d+1) N.aa [.int .u64 (zs:Int),.int .i64 (b:Int)] g=.val (.bool (zs.testBit b)):=fun g=>by rw[kY (Nat.succ_pos d) (by omega) (by omega),ox]
  have hsh:bK .shl (.int .u64 1) (.int .u64 (b:Int))=.val (.int .u64 ((2 ^ b:Nat):Int)):=by rw[bZ,iC (by omega)]
  have hdl:=u9 h2b p.length
  have hbp:p[b]?=some (Par p b):=by simp[Par,List.getElem?_eq_getElem hbl]
  have next:okT (Eg p) (Bt zs) a b c->∀k u v w,1<=k->k<i+1->tr[k - 1]?=some u->tr[k]?=some v->tr[k+1]?=some w->okT (Eg p) (Bt zs) u v w:=fun h k u v w a1 a2 e1 e2 e3=>by
   by_cases ek:k=i
   ·subst ek
    rw[ha] at e1;rw[hb] at e2;rw[hc] at e3
    injection e1 with e1;injection e2 with e2;injection e3 with e3
    subst e1 e2 e3
    exact h
   ·exact hall k u v w a1 (by omega) e1 e2 e3
  have fail:¬okT (Eg p) (Bt zs) a b c->S.aI p zs tr=false:=fun h=>BJ fun ho=>h (zh.1 ho i a b c hi ha hb hc)
  have w1:IntKind.wrap .u64 (b:Int)=(b:Int):=dy (by omega) (by omega)
  cases hcol:(Par p b).testBit a&&(Par p b).testBit c with
  | true =>
   have hcc:Eg p a b/\Eg p c b:=by rwa [Bool.and_eq_true] at hcol
   rw[hcol] at kC
   have hand:=bT (S.dn p (2 ^ b) p.length) zs (by omega) (by omega)
   have hAn:S.dn p (2 ^ b) p.length &&& zs=0↔¬An (Eg p) (Bt zs) b:=by
    rw[<-Classical.not_not (a:=S.dn p (2 ^ b) p.length &&& zs=0)]
    refine not_congr ?_
    show _≠0↔_
    rw[uv]
    constructor
    ·rintro ⟨x,x1,x2⟩
     obtain ⟨u,u1,u2⟩:=(Bs hp h2b x).1 x1
     rw[Nat.testBit_two_pow,decide_eq_true_iff] at u1
     subst u1
     exact ⟨x,x2,u2⟩
    ·rintro ⟨x,x1,x2⟩
     exact ⟨x,(Bs hp h2b x).2 ⟨b,by rw[Nat.testBit_two_pow,decide_eq_true_iff],x2⟩,x1⟩
   by_cases c2:((S.dn p (2 ^ b) p.length &&& zs:Nat):Int)=0
   ·simp only[sz,simprocAttr,h0,h1,h2,h7,w1,w2,wl,c1,rt,z2,q2,ci,kC,hsh,kD,hand,c2]
    rw[fail fun h=>hAn.1 (by omega) (h.1 hcc)]
   ·simp only[sz,simprocAttr,h0,h1,h2,h7,w1,w2,wl,c1,rt,z2,q2,ci,kC,hsh,kD,hand,c2]
    refine ⟨_,?_,i+1,rfl,by omega,by omega,by simp[St,sx,h0,h1,h2],next ⟨fun _=>Classical.byContradiction fun h=>c2 (by have:=hAn.2 h;omega),fun h=>absurd hcc h⟩⟩
    omega
  | false =>
   have hcc:¬(Eg p a b/\Eg p c b):=fun h=>by
    have:((Par p b).testBit a&&(Par p b).testBit c)=true:=by rw[Bool.and_eq_true];exact h
    rw[hcol] at this;cases this
   rw[hcol] at kC
   cases hzb:zs.testBit b with
   | true =>
    rw[hzb] at kI
    simp only[sz,simprocAttr,h0,h1,h2,h7,w2,wl,c1,rt,z2,q2,ci,kC,kI]
    rw[fail fun h=>h.2 hcc hzb]
   | false =>
    rw[hzb] at kI
    simp only[sz,simprocAttr,h0,h1,h2,h7,w2,wl,c1,rt,z2,q2,ci,kC,kI]
    refine ⟨_,?_,i+1,rfl,by omega,by omega,by simp[St,sx,h0,h1,h2],next ⟨fun h=>absurd h hcc,fun _ h=>by have h:zs.testBit b=true:=h;rw[hzb] at h;cases h⟩⟩
    omega
 ·have c1:¬((i+1:Nat):Int)<(tr.length:Int):=by omega
  simp only[sz,simprocAttr,h1,h7,w2,wl,c1,iL]
  rw[nb.2 (zh.2 fun k u v w a1 e1 e2 e3=>hall k u v w a1 (by have:=(List.getElem?_eq_some_iff.1 e3).1;omega) e1 e2 e3)]
def stE (p:List Nat)(zs x:Nat)(l:List Nat)(v0 j:Nat)(y:Nat):Prop:=(y=v0/\¬Bt zs v0)\/∃w,w<j/\(Eg p v0 w\/Eg p w v0)/\w ∉ l/\kK (Eg p) (Bt zs) x (w::l) y
theorem BO {p:List Nat}{zs x:Nat}{l:List Nat}{v0 j y:Nat}(h:¬((Eg p v0 j\/Eg p j v0)/\j ∉ l)):stE p zs x l v0 (j+1) y↔stE p zs x l v0 j y:=by
 constructor
 ·rintro (h1 | ⟨w,h1,h2,h3,h4⟩)
  ·exact .inl h1
  ·by_cases e:w=j
   ·subst e;exact absurd ⟨h2,h3⟩ h
   ·exact .inr ⟨w,by omega,h2,h3,h4⟩
 ·rintro (h1 | ⟨w,h1,h2,h3,h4⟩)
  ·exact .inl h1
  ·exact .inr ⟨w,by omega,h2,h3,h4⟩
theorem AF {p:List Nat}{zs x:Nat}{l:List Nat}{v0 j y:Nat}(h:(Eg p v0 j\/Eg p j v0)/\j ∉ l):stE p zs x l v0 (j+1) y↔stE p zs x l v0 j y\/kK (Eg p) (Bt zs) x (j::l) y:=by
 constructor
 ·rintro (h1 | ⟨w,h1,h2,h3,h4⟩)
  ·exact .inl (.inl h1)
  ·by_cases e:w=j
   ·subst e;exact .inr h4
   ·exact .inl (.inr ⟨w,by omega,h2,h3,h4⟩)
 ·rintro ((h1 | ⟨w,h1,h2,h3,h4⟩) | h1)
  ·exact .inl h1
  ·exact .inr ⟨w,by omega,h2,h3,h4⟩
  ·exact .inr ⟨j,by omega,h.1,h.2,h1⟩
theorem sA {tr:List Nat}{i j x:Nat}(h:tr[i]?=some x):(tr.take (i+1)).all (fun y=>decide (y≠j))=((tr.take i).all (fun y=>decide (y≠j))&&decide (x≠j)):=by
 rw[List.take_add_one,h,List.all_append];simp
theorem BR {tr:List Nat}{j:Nat}:tr.all (fun y=>decide (y≠j))=true↔j ∉ tr:=by
 rw[List.all_eq_true]
 simp only[decide_eq_true_eq]
 exact ⟨fun h hj=>h j hj rfl,fun h y hy e=>h (e ▸ hy)⟩
def BZ (p:List Nat)(zs x m:Nat):Prop :=
 ∀{d k k2:Nat} {g:G} {P P2:Nat->Prop} {v w:AV} {tr:List Nat},p.length - tr.length<=m->0<d->SlR P k g.h p v->SlR P2 k2 g.h (tr.map cn) w->Tw (Eg p) x tr.reverse ->
  aE C0 d N.ax [v,w,.int .u64 (zs:Int)] g=.val (.int .u64 (S.aa (kK (Eg p) (Bt zs) x tr.reverse) p.length:Int))
theorem uw {E:Nat->Nat->Prop}{x:Nat}{l:List Nat}(h:Tw E x l):∃v r,l=v::r:=by
 cases h with
 | one=>exact ⟨_,_,rfl⟩
 | ext _ _ _=>exact ⟨_,_,rfl⟩
theorem Ap {kk d:Nat}{Q:QT}{t:T}{g:G}{w':AV}{tr:List Nat}{j:Nat}{b:Bool}{l:List (Nat×AV)}(r2:∀h,SlR NoP kk h (tr.map cn) w')
  (ht:St t [(10,.bool b),(9,.int .i64 (j:Int)),(1,w')]) (h11:tat t 11=.int .i64 0) (hl:∀t a x,a∈[10,11,51,52,53,54,55,56,57,58,59,60,61,62,63,64,65]->St t l->St (dO t a x) l) (hlt:St t l)
  (fin:∀t,St t [(10,.bool (b&&decide (j ∉ tr))),(9,.int .i64 (j:Int)),(1,w')]->St t l->Q (.exit 2) t [] g):wpL (wp C0 d none eZ) Q t [] g:=by
 have hl1:=(r2 .nil).1
 rw[List.length_map] at hl1
 have wl:∀g,eV .slice w' g=.val (.int .i64 (tr.length:Int)):=fun g=>by rw[(r2 .nil).len g,List.length_map]
 have rt:=fun h=>(r2 h).ints
 obtain ⟨h10,h9,h1,-⟩:=ht
 simp only[eZ]
 refine eM hl1 wl (fun i t df g'=>df=[]/\g'=g/\St t l/\tat t 9=.int .i64 (j:Int)/\tat t 10=.bool (b&&(tr.take i).all (fun y=>decide (y≠j)))) ⟨rfl,rfl,hlt,h9,by simp[h10]⟩ h11 h1 (by decide) ?_ ?_ ?_
 ·rintro i t df g' v s (rfl | rfl | rfl | rfl | rfl | rfl | rfl) ⟨a1,a2,a3,a4,a5⟩<;>exact ⟨a1,a2,hl _ _ _ (by simp) a3,by simp[sx,a4],by simp[sx,a5]⟩
 ·rintro i t df g' hi ⟨rfl,rfl,hlt,h9,h10⟩ h11 h1
  obtain ⟨x,hx,-,-⟩:=bU hi
  have q:=mr hx
  have z:i<((tr.map cn).map ci).length:=by simpa using hi
  have hall:=sA (j:=j) hx
  cases hb:(b&&(tr.take i).all (fun y=>decide (y≠j))) with
  | true =>
   rw[hb] at h10
   have hd:(!decide ((x:Int)=(j:Int)))=decide (x≠j):=by
    by_cases e:x=j
    ·simp[e]
    ·have:¬(x:Int)=(j:Int):=by omega
     simp[e,this]
   have hr:(b&&(tr.take (i+1)).all (fun y=>decide (y≠j)))=decide (x≠j):=by rw[hall,<-Bool.and_assoc,hb,Bool.true_and]
   simp only[sz,simprocAttr,h1,h9,h10,h11,rt,z,q,ci]
   refine ⟨?_,?_⟩
   ·repeat' (first | exact hlt | refine hl _ _ _ (by simp) ?_)
   ·rw[hr];simp[sx,hd]
  | false =>
   rw[hb] at h10
   have hr:(b&&(tr.take (i+1)).all (fun y=>decide (y≠j)))=false:=by rw[hall,<-Bool.and_assoc,hb,Bool.false_and]
   simp only[sz,simprocAttr,h1,h9,h10,h11]
   refine ⟨?_,?_⟩
   ·repeat' (first | exact hlt | refine hl _ _ _ (by simp) ?_)
   ·rw[hr]
 ·rintro t df g' ⟨rfl,rfl,hlt,h9,h10⟩ h1
  refine fin t ⟨?_,h9,h1,trivial⟩ hlt
  rw[h10,List.take_length]
  congr 2
  rw[Bool.eq_iff_iff,BR,decide_eq_true_iff]
theorem zW {p:List Nat}{zs x:Nat}(hp:∀x∈p,x<2 ^ p.length)(hn:p.length<=8)(hz:zs<2 ^ p.length)(hx:x<p.length):∀m,BZ p zs x m:=by
 intro m
 induction m using Nat.strongRecOn with
 | _ m ih =>
  intro d k k2 g P P2 v w tr hm hd hv hw hT
  obtain ⟨v',e,r1⟩:=cP hv d
  obtain ⟨w',e2,r2⟩:=cP hw d
  have hl1:=hw.1
  rw[List.length_map] at hl1
  have h256:=kw hn
  have hE:∀u v,Eg p u v->u<p.length/\v<p.length:=fun u v h=>jm hp h
  have htl:∀y∈tr,y<p.length:=fun y hy=>Bp hE hx hT y (by simpa using hy)
  have hlt:=bj hv
  rw[mQ]
  refine fq oY (xs:=[v',w',.int .u64 (zs:Int)]) (by simp only[aF,e,e2,cV]) (by simp[eh]) hd ?_
  have rt:=fun h=>(r2 h).ints
  have rp:=fun h=>(r1 h).nats
  have wl:∀g,eV .slice w' g=.val (.int .i64 (tr.length:Int)):=fun g=>by rw[(r2 .nil).len g,List.length_map]
  have kO:=fun g=>Aq (d:=d+1) (g:=g) (Nat.succ_pos d) (r1 g.h) (r2 g.h) hp hn htl hz
  cases ho:S.aI p zs tr with
  | false =>
   rw[ho] at kO
   simp only[sz,simprocAttr,eh,kO]
   have hno:¬Tl (Eg p) (Bt zs) x tr.reverse:=fun h=>by rw[nb.2 (yu.1 h).2] at ho;cases ho
   rw[jn]
   ·rfl
   ·rintro y - ⟨s,h1,-⟩
    have:∃v r,tr.reverse=v::r:=uw hT
    obtain ⟨v0,r,hr⟩:=this
    rw[hr] at h1 hno
    exact hno (oQ h1 rfl).1
  | true =>
   rw[ho] at kO
   have hTl:Tl (Eg p) (Bt zs) x tr.reverse:=yu.2 ⟨hT,nb.1 ho⟩
   obtain ⟨v0,r,hr⟩:∃v r,tr.reverse=v::r:=uw hT
   have htr:tr=r.reverse++[v0]:=by rw[<-List.reverse_reverse tr,hr,List.reverse_cons]
   have hlen:tr.length=r.length+1:=by rw[htr];simp
   have hv0:tr[tr.length - 1]?=some v0:=by rw[htr];simp
   have hv0l:=htl v0 (List.mem_of_getElem? hv0)
   have q0:=mr hv0
   have z0:tr.length - 1<((tr.map cn).map ci).length:=by simp;omega
   have w1:IntKind.wrap .i64 ((tr.length:Int) - 1)=((tr.length - 1:Nat):Int):=by rw[fd (by omega) (by omega)];omega
   have hnd:=sD hT
   have hpv:p[v0]?=some (Par p v0):=by simp[Par,List.getElem?_eq_getElem hv0l]
   have u1:v0<(p.map cu).length:=by simpa using hv0l
   have u2:(p.map cu)[v0]?=some (cu (Par p v0)):=by rw[List.getElem?_map,hpv];rfl
   have kI:∀g,aE C0 (d+1) N.aa [.int .u64 (zs:Int),.int .i64 (v0:Int)] g=.val (.bool (zs.testBit v0)):=fun g=>by rw[kY (Nat.succ_pos d) (by omega) (by omega),ox]
   have hmem:∀j,j ∉ v0::r↔j ∉ tr:=fun j=>by rw[<-hr,List.mem_reverse]
   have rest:∀t,St t [(0,v'),(1,w'),(2,.int .u64 (zs:Int)),(8,.int .i64 (v0:Int)),(7,.int .u64 (S.aa (stE p zs x (v0::r) v0 0) p.length:Int))] ->
     wp C0 (d+1) none e9 (fnQ C0 (d+1) [SR.tm 6] fun v _=>v=AV.int IntKind.u64 ↑(S.aa (kK (Eg p) (Bt zs) x tr.reverse) p.length)) t [] G.empty:=by
    rintro t ⟨t0,t1,t2,t8,t7,-⟩
    simp only[e9,sz,simprocAttr,iP,iJ]
    refine eM hv.1 (r1 .nil).len (fun j t df g'=>df=[]/\St t [(1,w'),(2,.int .u64 (zs:Int)),(8,.int .i64 (v0:Int)),(7,.int .u64 (S.aa (stE p zs x (v0::r) v0 j) p.length:Int))]) ⟨rfl,by simp[St,sx,t1,t2,t7,t8]⟩ (by simp[sx]) (by simp[sx,t0]) (by decide)
     (by rintro j t df g v s (rfl | rfl | rfl | rfl | rfl | rfl | rfl)<;>simp[sx,St]) ?_ ?_
    ·rintro j t df g hj ⟨rfl,h1,h2,h8,h7,-⟩ h9 h0
     obtain ⟨y,hy,-,hym⟩:=bU hj
     have hpj:Par p j=y:=by simp[Par,hy]
     have hyl:=hlt y hym
     have hpl:=hlt _ (List.mem_of_getElem? hpv)
     have kA:∀g,aE C0 (d+1) N.aa [.int .u64 (y:Int),.int .i64 (v0:Int)] g=.val (.bool (y.testBit v0)):=fun g=>by rw[kY (Nat.succ_pos d) hyl (by omega),ox]
     have kB:∀g,aE C0 (d+1) N.aa [.int .u64 (Par p v0:Int),.int .i64 (j:Int)] g=.val (.bool ((Par p v0).testBit j)):=fun g=>by rw[kY (Nat.succ_pos d) hpl (by omega),ox]
     have hadj:(y.testBit v0 || (Par p v0).testBit j)=true↔(Eg p v0 j\/Eg p j v0):=by rw[Bool.or_eq_true,Eg,Eg,hpj]
     obtain ⟨b,hb⟩:∃b,b=(y.testBit v0 || (Par p v0).testBit j):=⟨_,rfl⟩
     have z1:j<(p.map cu).length:=by simpa using hj
     have z2:(p.map cu)[j]?=some (cu y):=by rw[List.getElem?_map,hy];rfl
     rw[<-hb] at hadj
     refine qD (P:=fun t' df' g'=>df'=[]/\g'=g/\St t' [(0,v'),(1,w'),(2,.int .u64 (zs:Int)),(8,.int .i64 (v0:Int)),(7,.int .u64 (S.aa (stE p zs x (v0::r) v0 j) p.length:Int)),(9,.int .i64 (j:Int)),(10,.bool b)]) ?_ ?_
     ·cases hya:y.testBit v0 with
      | true =>
       rw[hya] at kA hb
       simp only[sz,simprocAttr,h0,h1,h8,h9,rp,z1,z2,cu,kA]
       simp[St,sx,h0,h1,h2,h7,h8,h9,hb]
      | false =>
       rw[hya] at kA hb
       simp only[sz,simprocAttr,h0,h1,h8,h9,rp,z1,z2,u1,u2,cu,kA,kB]
       simp[St,sx,h0,h1,h2,h7,h8,h9,hb]
     ·clear h0 h1 h2 h7 h8 h9
      rintro t df g' ⟨rfl,rfl,h0,h1,h2,h8,h7,h9,h10,-⟩
      simp only[sz,simprocAttr]
      refine Ap (tr:=tr) (j:=j) (b:=b) (l:=[(0,v'),(2,.int .u64 (zs:Int)),(8,.int .i64 (v0:Int)),(7,.int .u64 (S.aa (stE p zs x (v0::r) v0 j) p.length:Int))]) (fun h=>(r2 h)) (by simp[St,sx,h1,h9,h10]) (by simp[sx]) ?_ (by simp[St,sx,h0,h2,h7,h8]) ?_
      ·rintro t a x ha ⟨b1,b2,b3,b4,-⟩
       simp only[List.mem_cons,List.not_mem_nil,or_false] at ha
       rcases ha with rfl | rfl | rfl | rfl | rfl | rfl | rfl | rfl | rfl | rfl | rfl | rfl | rfl | rfl | rfl | rfl | rfl<;>simp[St,sx,b1,b2,b3,b4]
      rintro t ⟨h10,h9,h1,-⟩ ⟨h0,h2,h8,h7,-⟩
      by_cases hj2:(Eg p v0 j\/Eg p j v0)/\j ∉ tr
      ·have hbt:(b&&decide (j ∉ tr))=true:=by rw[Bool.and_eq_true,decide_eq_true_iff];exact ⟨hadj.2 hj2.1,hj2.2⟩
       rw[hbt] at h10
       have hT2:Tw (Eg p) x (tr++[j]).reverse:=by
        rw[List.reverse_append,hr]
        rw[hr] at hT
        exact hT.ext hj2.1 ((hmem j).2 hj2.2)
       have hln:(tr++[j]).length<=p.length:=by
        have:=l_ (sD hT2) (Bp hE hx hT2)
        rwa [List.length_reverse] at this
       rw[List.length_append,List.length_singleton] at hln
       simp only[sz,simprocAttr,fc,h0,h1,h2,h7,h8,h9,h10]
       refine fO (b:=0) (rows:=[]) (new:=(tr.map cn).map ci) (.inl ⟨rfl,rfl⟩) (rt _) (Nat.zero_le _) (by simp[ei];omega) fun w2 g2 hw2 n2 f2 _ l2=>?_
       simp only[sz,simprocAttr,h9]
       refine fO (new:=[ci (j:Int)]) (hw2.step (Fr.new _ _)) (by simp[sx,sy,ci]) (Nat.zero_le _) (by simp[ei];omega) fun w3 g3 hw3 n3 f3 _ l3=>?_
       have e3:([]++(tr.map cn).map ci)++[ci (j:Int)]=((tr++[j]).map cn).map ci:=by simp[cn]
       rw[e3] at hw3
       have kE:=ih (m - 1) (by omega) (d:=d+1) (g:=g3) (tr:=tr++[j]) (by rw[List.length_append,List.length_singleton];omega) (Nat.succ_pos d) (r1 g3.h) (hw3.intsV (by simp;omega)) hT2
       have hA:=fT (stE p zs x (v0::r) v0 j) p.length
       have hB:=fT (kK (Eg p) (Bt zs) x (tr++[j]).reverse) p.length
       simp only[sz,simprocAttr,h0,h2,h7,kE,fe _ _ (show S.aa (stE p zs x (v0::r) v0 j) p.length<18446744073709551616 by omega) (show S.aa (kK (Eg p) (Bt zs) x (tr++[j]).reverse) p.length<18446744073709551616 by omega)]
       rw[zH]
       have eq:S.aa (fun i=>stE p zs x (v0::r) v0 j i\/kK (Eg p) (Bt zs) x (tr++[j]).reverse i) p.length=S.aa (stE p zs x (v0::r) v0 (j+1)) p.length:=bH fun y _=>by
        rw[AF ⟨hj2.1,(hmem j).2 hj2.2⟩,List.reverse_append,hr];rfl
       rw[eq]
       simp[St,sx,h0,h1,h2,h8,h9]
      ·have hbt:(b&&decide (j ∉ tr))=false:=by
        cases hq:(b&&decide (j ∉ tr)) with
        | false=>rfl
        | true =>
         rw[Bool.and_eq_true,decide_eq_true_iff] at hq
         exact absurd ⟨hadj.1 hq.1,hq.2⟩ hj2
       rw[hbt] at h10
       have eq:S.aa (stE p zs x (v0::r) v0 j) p.length=S.aa (stE p zs x (v0::r) v0 (j+1)) p.length:=bH fun y _=>(BO fun h=>hj2 ⟨h.1,(hmem j).1 h.2⟩).symm
       rw[eq] at h7
       simp only[sz,simprocAttr,fc,h10]
       simp[St,sx,h0,h1,h2,h7,h8,h9]
    ·rintro t df g ⟨rfl,h1,h2,h8,h7,-⟩ h0
     simp only[sz,simprocAttr,iS,h7]
     rw[hr,bH fun y _=>?_]
     rw[hr] at hTl
     rw[y8 hTl]
     constructor
     ·rintro (h | ⟨w,-,h⟩)
      ·exact .inl h
      ·exact .inr ⟨w,h⟩
     ·rintro (h | ⟨w,h2,h⟩)
      ·exact .inl h
      ·exact .inr ⟨w,h2.elim (fun h=>(hE _ _ h).2) fun h=>(hE _ _ h).1,h2,h⟩
   have st0:S.aa (stE p zs x (v0::r) v0 0) p.length=if zs.testBit v0 then 0 else 2 ^ v0:=by
    cases hzb:zs.testBit v0 with
    | true =>
     rw[if_pos rfl]
     refine jn ?_
     rintro y - (⟨-,h⟩ | ⟨w,h,-⟩)
     ·exact h hzb
     ·omega
    | false =>
     rw[if_neg (by decide)]
     refine AK hv0l fun y=>⟨?_,fun h=>.inl ⟨h,fun h'=>by have h':zs.testBit v0=true:=h';rw[hzb] at h';cases h'⟩⟩
     rintro (⟨h,-⟩ | ⟨w,h,-⟩)
     ·exact h
     ·omega
   have hsh:bK .shl (.int .u64 1) (.int .u64 (v0:Int))=.val (.int .u64 ((2 ^ v0:Nat):Int)):=by rw[bZ,iC (by omega)]
   have ww:IntKind.wrap .u64 (v0:Int)=(v0:Int):=dy (by omega) (by omega)
   cases hzb:zs.testBit v0 with
   | true =>
    rw[hzb] at kI st0
    simp only[sz,simprocAttr,eh,kO,wl,w1,rt,z0,q0,ci,kI]
    exact rest _ (by simp[St,sx,st0])
   | false =>
    rw[hzb] at kI st0
    simp only[sz,simprocAttr,eh,kO,wl,w1,rt,z0,q0,ci,kI,ww,hsh]
    exact rest _ (by simp[St,sx,st0])
theorem BF {xs zs:Nat}(h:xs &&& zs=0):∀x,Bt xs x->¬Bt zs x:=fun x h1 h2=>by
 have:=congrArg (·.testBit x) h
 have e1:xs.testBit x=true:=h1
 have e2:zs.testBit x=true:=h2
 simp[e1,e2] at this
theorem qh {d k:Nat}{g:G}{P:Nat->Prop}{v:AV}{p:List Nat}{xs zs:Nat}(hd:0<d)(hv:SlR P k g.h p v)(hG:GOk p)(hxs:xs<2 ^ p.length)(hzs:zs<2 ^ p.length)(hxz:xs &&& zs=0) :
  aE C0 d N.ap [v,.int .u64 (xs:Int),.int .u64 (zs:Int)] g=.val (.int .u64 (S.am p xs zs:Int)):=by
 obtain ⟨v',e,r1⟩:=cP hv d
 have h256:=kw hG.l8
 have h8:=hG.l8
 rw[lZ]
 refine fq nF (xs:=[v',.int .u64 (xs:Int),.int .u64 (zs:Int)]) (by simp only[aF,e,cV]) (by simp[gJ]) hd ?_
 obtain ⟨st,hst⟩:∃st:Nat->Nat,st=fun j=>S.aa (fun y=>∃x,x<j/\Bt xs x/\kK (Eg p) (Bt zs) x [x] y) p.length:=⟨_,rfl⟩
 have hst0:st 0=0:=by rw[hst];exact jn (by rintro i - ⟨x,h,-⟩;omega)
 have hstl:∀j,st j<2 ^ p.length:=fun j=>by rw[hst];exact fT _ _
 have hstn:∀j,¬Bt xs j->st (j+1)=st j:=fun j hj=>by
  rw[hst]
  refine bH fun y _=>?_
  constructor
  ·rintro ⟨x,h1,h2,h3⟩
   by_cases e:x=j
   ·subst e;exact absurd h2 hj
   ·exact ⟨x,by omega,h2,h3⟩
  ·rintro ⟨x,h1,h⟩;exact ⟨x,by omega,h⟩
 have hsty:∀j,Bt xs j->st (j+1)=st j ||| S.aa (kK (Eg p) (Bt zs) j [j].reverse) p.length:=fun j hj=>by
  rw[hst,zH]
  refine bH fun y _=>?_
  constructor
  ·rintro ⟨x,h1,h2,h3⟩
   by_cases e:x=j
   ·subst e;exact .inr h3
   ·exact .inl ⟨x,by omega,h2,h3⟩
  ·rintro (⟨x,h1,h⟩ | h)
   ·exact ⟨x,by omega,h⟩
   ·exact ⟨j,by omega,hj,h⟩
 have hfin:st p.length=S.am p xs zs:=by
  rw[hst]
  refine bH fun y _=>?_
  rw[BA (Ao hG.hp hG.ac) (BF hxz)]
  constructor
  ·rintro ⟨x,-,h⟩;exact ⟨x,h⟩
  ·rintro ⟨x,h,h2⟩;exact ⟨x,mz hxs h,h,h2⟩
 clear hst
 simp only[sz,simprocAttr,gJ]
 simp only[gS,h_]
 refine eM hv.1 (r1 .nil).len (fun j t df g=>df=[]/\St t [(1,.int .u64 (xs:Int)),(2,.int .u64 (zs:Int)),(7,.int .u64 (st j:Int))]) ⟨rfl,by simp[St,sx,hst0]⟩ (by simp[sx]) (by simp[sx]) (by decide)
  (by rintro j t df g v s (rfl | rfl | rfl | rfl | rfl | rfl | rfl)<;>simp[sx,St]) ?_ ?_
 ·rintro j t df g hj ⟨rfl,h1,h2,h7,-⟩ h8 h0
  have kI:∀g,aE C0 (d+1) N.aa [.int .u64 (xs:Int),.int .i64 (j:Int)] g=.val (.bool (xs.testBit j)):=fun g=>by rw[kY (Nat.succ_pos d) (by omega) (by omega),ox]
  cases hb:xs.testBit j with
  | true =>
   rw[hb] at kI
   have hB:=fT (kK (Eg p) (Bt zs) j [j].reverse) p.length
   have hA:=hstl j
   have kE:=fun (g:G) (h:g.h.get (g.nx - 1)=.cells 1 [[.int .i64 (j:Int)]] 0 false false) (hn:0<g.nx)=>zW hG.hp hG.l8 hzs hj (p.length) (d:=d+1) (g:=g) (tr:=[j]) (v:=v') (w:=.hsl (g.nx - 1) 0 0 1 none) (P2:=fun _=>True) (k2:=0) (by omega) (Nat.succ_pos d) (r1 g.h)
    (Own.intsV (b:=0) (l:=[(j:Int)]) (.inr ⟨g.nx - 1,0,false,by omega,by omega,rfl,h⟩) (by show 1<9223372036854775808;decide) |>.wd fun _ _=>⟨trivial,rfl⟩) .one
   have kE:=kE (g.new (.cells 1 [[.int .i64 (j:Int)]] 0 false false)) (by simp[H.get_put]) (by simp)
   simp only[G.new_nx,Nat.add_sub_cancel] at kE
   simp only[sz,simprocAttr,h0,h1,h2,h7,h8,kI,kE,fe (st j) _ (by omega) (show S.aa (kK (Eg p) (Bt zs) j [j].reverse) p.length<18446744073709551616 by omega)]
   rw[<-hsty j hb]
   simp[St,sx,h1,h2]
  | false =>
   rw[hb] at kI
   simp only[sz,simprocAttr,h0,h1,h8,kI]
   rw[hstn j fun h=>by have h:xs.testBit j=true:=h;rw[hb] at h;cases h]
   simp[St,sx,h1,h2,h7]
 ·rintro t df g ⟨rfl,h1,h2,h7,-⟩ h0
  simp only[sz,simprocAttr,gT,h7]
  rw[hfin]
theorem xA {d k:Nat}{g:G}{P:Nat->Prop}{v:AV}{p:List Nat}{xs ys zs:Nat}(hd:0<d)(hv:SlR P k g.h p v)(hG:GOk p)(hxs:xs<2 ^ p.length)(hys:ys<2 ^ p.length)(hzs:zs<2 ^ p.length)(hxz:xs &&& zs=0) :
  aE C0 d N.aC [v,.int .u64 (xs:Int),.int .u64 (ys:Int),.int .u64 (zs:Int)] g=.val (.bool (decide (S.am p xs zs &&& ys=0))):=by
 obtain ⟨v',e,r1⟩:=cP hv d
 have h256:=kw hG.l8
 rw[lW]
 refine eX od (xs:=[v',.int .u64 (xs:Int),.int .u64 (ys:Int),.int .u64 (zs:Int)]) (by simp only[aF,e,cV]) (by simp[gN]) hd ?_
 have kR:=fun g=>qh (d:=d+1) (g:=g) (Nat.succ_pos d) (r1 g.h) hG hxs hzs hxz
 have hR:S.am p xs zs<2 ^ p.length:=fT _ _
 simp only[sz,simprocAttr,gN,kR,bT _ _ (show S.am p xs zs<18446744073709551616 by omega) (show ys<18446744073709551616 by omega)]
 have:decide (((S.am p xs zs &&& ys:Nat):Int)=0)=decide (S.am p xs zs &&& ys=0):=by
  by_cases h:S.am p xs zs &&& ys=0
  ·simp[h]
  ·have:¬((S.am p xs zs &&& ys:Nat):Int)=0:=by omega
   simp[h]
 rw[this]
def S.aC (p:List Nat)(xs zs:Nat):Nat:=if S.ae p [xs,zs]=0 then S.am p xs zs else 0
def S.aB (p:List Nat)(xs ys zs:Nat):Bool:=decide (S.ae p [xs,ys,zs]=0)&&decide (S.am p xs zs &&& ys=0)
theorem Bz {n x z a:Nat}:S.ah n [x,z] a=true↔x<2 ^ n/\x &&& a=0/\z<2 ^ n/\z &&& (a ||| x)=0:=by
 simp[S.ah,and_assoc]
theorem Bb {n x y z:Nat}:S.ah n [x,y,z] 0=true↔x<2 ^ n/\y<2 ^ n/\y &&& x=0/\z<2 ^ n/\z &&& (x ||| y)=0:=by
 simp[S.ah,and_assoc]
theorem pN {a b:Nat}(h:a &&& b=0):b &&& a=0:=by rw[Nat.and_comm];exact h
theorem zS {a b c:Nat}(h:a &&& (b ||| c)=0):a &&& b=0/\a &&& c=0:=by
 have k:∀i,(a.testBit i&&(b.testBit i || c.testBit i))=false:=fun i=>by
  rw[<-Nat.testBit_or,<-Nat.testBit_and,h,Nat.zero_testBit]
 constructor <;>
 ·refine Nat.eq_of_testBit_eq fun i=>?_
  have:=k i
  rw[Nat.testBit_and,Nat.zero_testBit]
  cases h1:a.testBit i<;>cases h2:b.testBit i<;>cases h3:c.testBit i<;>simp[h1,h2,h3] at this ⊢
theorem AG {g:G}{id:Nat}{l:List Nat}(h:g.h.get id=.cells 1 (l.map cu) 0 false false)(hi:id<g.nx)  (hl:l.length<9223372036854775808)(hb:∀y∈l,y<18446744073709551616):SlR (fun i=>some id=some i) 0 g.h l (.hsl id 0 0 l.length none) :=
 Own.natsV (b:=0) (v:=.hsl id 0 0 l.length none) (.inr ⟨id,0,false,Nat.zero_le _,hi,by simp,h⟩) hl hb
theorem lj {α:Type} [Rp α]{x:α}{k:Nat}{h h':H}{v:AV}(r:Agg x NoP k h v):Agg x NoP k h' v:=by
 obtain ⟨cs,rfl,r⟩:=r
 exact ⟨cs,rfl,Rp.tree r (Nat.le_refl _)⟩
theorem wG {d:Nat}{g:G}{v:AV}{p:List Nat}{xs zs:Nat}(hd:0<d)(hv:SlR NoP 0 .nil p v)(hx:xs<18446744073709551616)(hz:zs<18446744073709551616) :
  aE C0 d N.an [v,.int .u64 (xs:Int),.int .u64 (zs:Int)] g=.val (.tup [.int .u64 (S.aC p xs zs:Int),.int .i64 (S.ae p [xs,zs])]):=by
 have key:∃r,aE C0 d N.an [v,.int .u64 (xs:Int),.int .u64 (zs:Int)] g=.val r/\wE (One (S.aC p xs zs)) (One (S.ae p [xs,zs])) NoP 0 .nil r:=by
  have e:=kU (h:=g.h) d (hv.tree (h':=g.h) (Nat.le_refl 0))
  have fin:∀{h:H} {r:Nat} {x:Int},S.aC p xs zs=r->S.ae p [xs,zs]=x->r<18446744073709551616->∃P,wE (One (S.aC p xs zs)) (One (S.ae p [xs,zs])) P 0 h (.tup [.int .u64 (r:Int),.int .i64 x]):=fun h1 h2 h3 =>
   ⟨fun _=>True,_,_,rfl,by rw[h1];exact l6.2 ⟨rfl,h3⟩,by rw[h2];exact fM.2 rfl⟩
  rw[jR]
  refine jF lH (xs:=[v,.int .u64 (xs:Int),.int .u64 (zs:Int)]) (by simp only[aF,e,cV]) (by simp[eG]) (nP (m:=1) (io _) (io _) (by decide) (by decide)) (by decide) hd ?_
  simp only[sz,simprocAttr,eG]
  refine nM (nR (Nat.succ_pos d) hv) fun z hz'=>?_
  obtain ⟨a,b,rfl,ha',hb⟩:=hz'
  have hA:=ha'
  obtain ⟨cs,rfl,hcs⟩:=ha'
  obtain ⟨_,_,rfl,ha,hb2⟩:=dz.1 hcs
  obtain ⟨pa,rfl,-⟩:=aS.1 ha
  obtain ⟨ch,rfl,-⟩:=aS.1 hb2
  obtain rfl:b=.int .i64 (if S.au p then (0:Int) else 70):=by simpa using fM.1 hb
  have ld:aA (.cells 2 [[pa,ch]] 0 false false) 0 0 true 2 0=.val (.agg [pa,ch]):=rfl
  cases hG:S.au p with
  | false =>
   have h70:S.ae p [xs,zs]=70:=by simp[S.ae,hG]
   simp only[sz,simprocAttr,List.cons_append,List.nil_append]
   exact fin (r:=0) (by simp[S.aC,h70]) h70 (by decide)
  | true =>
   have hGo:=ie.1 hG
   have h256:=kw hGo.l8
   rw[S.gr,hG,if_pos rfl,List.cons_append,List.nil_append] at hA
   have kD:∀g:G,g.h.get 1=.cells 1 [[.int .u64 (xs:Int)],[.int .u64 (zs:Int)]] 0 false false->1<g.nx->aE C0 (d+1) N.ak [.agg [pa,ch],.hsl 1 0 0 2 none] g=.val (.bool (S.ah p.length [xs,zs] 0)) :=
    fun g h hn=>uT (Nat.succ_pos d) (lj hA) (AG (l:=[xs,zs]) h hn (by simp) (by simp[hx,hz])) hGo.l8
   have kR:=fun (h1:xs<2 ^ p.length) (h2:zs<2 ^ p.length) g=>r_ (d:=d+1) (g:=g) (Nat.succ_pos d) (lj hA) hGo.hp hGo.l1 hGo.l8 (u_ hGo.hp) h1 h2
   simp only[sz,simprocAttr,List.cons_append,List.nil_append,ld,vY]
   rw[kD _ (by simp[sx,H.get_put]) (by simp)]
   cases hD:S.ah p.length [xs,zs] 0 with
   | false =>
    have h2:S.ae p [xs,zs]=2:=by simp[S.ae,hG,hD]
    simp only[sz,simprocAttr]
    exact fin (r:=0) (by simp[S.aC,h2]) h2 (by decide)
   | true =>
    have h0:S.ae p [xs,zs]=0:=by simp[S.ae,hG,hD]
    obtain ⟨d1,-,d2,-⟩:=Bz.1 hD
    have hR:S.am p xs zs<2 ^ p.length:=fT _ _
    simp only[sz,simprocAttr,H.get_put,ld,kR d1 d2]
    exact fin (by simp[S.aC,h0]) h0 (by omega)
 obtain ⟨r,h1,a,b,rfl,h2,h3⟩:=key
 have h2:=(l6.1 h2).1
 have h3:=fM.1 h3
 injection h2 with h2
 injection h3 with h3
 rw[h1,h2,h3]
theorem w8 {d:Nat}{g:G}{v:AV}{p:List Nat}{xs ys zs:Nat}(hd:0<d)(hv:SlR NoP 0 .nil p v)(hx:xs<18446744073709551616)(hy:ys<18446744073709551616)(hz:zs<18446744073709551616) :
  aE C0 d N.au [v,.int .u64 (xs:Int),.int .u64 (ys:Int),.int .u64 (zs:Int)] g=.val (.tup [.bool (S.aB p xs ys zs),.int .i64 (S.ae p [xs,ys,zs])]):=by
 have key:∃r,aE C0 d N.au [v,.int .u64 (xs:Int),.int .u64 (ys:Int),.int .u64 (zs:Int)] g=.val r/\wE (One (S.aB p xs ys zs)) (One (S.ae p [xs,ys,zs])) NoP 0 .nil r:=by
  have e:=kU (h:=g.h) d (hv.tree (h':=g.h) (Nat.le_refl 0))
  have fin:∀{h:H} {r:Bool} {x:Int},S.aB p xs ys zs=r->S.ae p [xs,ys,zs]=x->∃P,wE (One (S.aB p xs ys zs)) (One (S.ae p [xs,ys,zs])) P 0 h (.tup [.bool r,.int .i64 x]):=fun h1 h2 =>
   ⟨fun _=>True,_,_,rfl,by rw[h1];exact vN.2 rfl,by rw[h2];exact fM.2 rfl⟩
  rw[jP]
  refine jF kZ (xs:=[v,.int .u64 (xs:Int),.int .u64 (ys:Int),.int .u64 (zs:Int)]) (by simp only[aF,e,cV]) (by simp[ew]) (nP (m:=1) (io _) (io _) (by decide) (by decide)) (by decide) hd ?_
  simp only[sz,simprocAttr,ew]
  refine nM (nR (Nat.succ_pos d) hv) fun z hz'=>?_
  obtain ⟨a,b,rfl,ha',hb⟩:=hz'
  have hA:=ha'
  obtain ⟨cs,rfl,hcs⟩:=ha'
  obtain ⟨_,_,rfl,ha,hb2⟩:=dz.1 hcs
  obtain ⟨pa,rfl,-⟩:=aS.1 ha
  obtain ⟨ch,rfl,-⟩:=aS.1 hb2
  obtain rfl:b=.int .i64 (if S.au p then (0:Int) else 70):=by simpa using fM.1 hb
  have ld:aA (.cells 2 [[pa,ch]] 0 false false) 0 0 true 2 0=.val (.agg [pa,ch]):=rfl
  cases hG:S.au p with
  | false =>
   have h70:S.ae p [xs,ys,zs]=70:=by simp[S.ae,hG]
   simp only[sz,simprocAttr,List.cons_append,List.nil_append]
   exact fin (by simp[S.aB,h70]) h70
  | true =>
   have hGo:=ie.1 hG
   have h256:=kw hGo.l8
   rw[S.gr,hG,if_pos rfl,List.cons_append,List.nil_append] at hA
   have kD:∀g:G,g.h.get 1=.cells 1 [[.int .u64 (xs:Int)],[.int .u64 (ys:Int)],[.int .u64 (zs:Int)]] 0 false false->1<g.nx->aE C0 (d+1) N.ak [.agg [pa,ch],.hsl 1 0 0 3 none] g=.val (.bool (S.ah p.length [xs,ys,zs] 0)) :=
    fun g h hn=>uT (Nat.succ_pos d) (lj hA) (AG (l:=[xs,ys,zs]) h hn (by simp) (by simp[hx,hy,hz])) hGo.l8
   have kR:=fun (h1:xs<2 ^ p.length) (h2:zs<2 ^ p.length) g=>r_ (d:=d+1) (g:=g) (Nat.succ_pos d) (lj hA) hGo.hp hGo.l1 hGo.l8 (u_ hGo.hp) h1 h2
   simp only[sz,simprocAttr,List.cons_append,List.nil_append,ld,p_]
   rw[kD _ (by simp[sx,H.get_put]) (by simp)]
   cases hD:S.ah p.length [xs,ys,zs] 0 with
   | false =>
    have h2:S.ae p [xs,ys,zs]=2:=by simp[S.ae,hG,hD]
    simp only[sz,simprocAttr]
    exact fin (by simp[S.aB,h2]) h2
   | true =>
    have h0:S.ae p [xs,ys,zs]=0:=by simp[S.ae,hG,hD]
    obtain ⟨d1,d2,-,d3,-⟩:=Bb.1 hD
    have hR:S.am p xs zs<2 ^ p.length:=fT _ _
    have hq:decide (((S.am p xs zs &&& ys:Nat):Int)=0)=decide (S.am p xs zs &&& ys=0):=by
     by_cases h:S.am p xs zs &&& ys=0
     ·simp[h]
     ·have:¬((S.am p xs zs &&& ys:Nat):Int)=0:=by omega
      simp[h]
    simp only[sz,simprocAttr,H.get_put,ld,kR d1 d3,bT _ _ (show S.am p xs zs<18446744073709551616 by omega) hy,hq]
    exact fin (by simp[S.aB,h0]) h0
 obtain ⟨r,h1,a,b,rfl,h2,h3⟩:=key
 have h2:=vN.1 h2
 have h3:=fM.1 h3
 injection h2 with h2
 injection h3 with h3
 rw[h1,h2,h3]
structure GvJ (g0:G) (q:Nat) (s:Int) (h:H):Prop where
 fr:∀i,i<g0.nx->i≠q->h.get i=g0.h.get i
 hq:h.get q=.cells 1 [[.int .i64 s]] 0 false false
structure ND where
 c:Nat->Int
 P:Nat->List Int
 m:Nat->Nat
 R:Nat->Nat->List Int
 o:Nat->Nat
def LN (n:Nat)(D:ND):Ky->Prop:=fun k=>k=(0,0)\/∃i q,k=(i+1,q)/\i<n/\q<2+D.o i
def Ck (D:ND)(V:Ky->AV)(i:Nat):List AV:=[.int .i64 (D.c i),V (i+1,0),V (i+1,1)]
def Co (V:Ky->AV)(i r:Nat):List AV:=[V (i+1,2+r)]
structure BN (K n:Nat) (V:Ky->AV) (E:Ky->En) (D:ND):Prop where
 ns:E (0,0)=.sl 3 ((List.range n).map (Ck D V))
 ps:∀i,i<n->E (i+1,0)=.sl 1 ((D.P i).map ci)/\(D.P i).length<=K
 rs:∀i,i<n->E (i+1,1)=.sl 1 ((List.range (D.m i)).map (Co V i))/\D.m i<=K
 rr:∀i r,i<n->r<D.m i->(D.R i r).length<=K/\((r<D.o i/\E (i+1,2+r)=.sl 1 ((D.R i r).map ci))\/SlR NoP 0 .nil (D.R i r) (V (i+1,2+r)))
def ND.node (D:ND)(i:Nat):Node:=⟨D.c i,D.P i,(List.range (D.m i)).map (D.R i)⟩
def Ch (gr c:Int)(l:List Int):Prop:=(l.length:Int)=c/\(∀y∈l,0<=y/\y<=gr)/\l.sum=gr
def S.rq (gr s x:Int):Int:=gr*x / s
structure Rw1 (gr:Int) (nv u:AV) (C F j:Nat) (t:T) (g:G):Prop where
 st:St t [(0,.int .i64 gr),(1,.int .i64 (C:Int)),(2,nv),(3,.int .i64 (F:Int)),(9,u)]
 hX:∃(X:List Int) (s:Int),tat t 10=.int .i64 s/\X.length=C/\Own g 0 u 1 (X.map ci)/\(∀x∈X,0<=x/\x<=7)/\s=(X.take j).sum/\0<=s/\s<=7*j
structure Rw2 (gr s:Int) (u:AV) (C:Nat) (X:List Int) (j:Nat) (t:T) (g:G):Prop where
 st:St t [(0,.int .i64 gr),(1,.int .i64 (C:Int)),(9,u),(10,.int .i64 s)]
 hX:∃(la:Nat),tat t 12=.int .i64 (gr - ((X.take j).map (S.rq gr s)).sum)/\tat t 13=.int .i64 (la:Int)/\la<C/\Own g 0 u 1 (((X.take j).map (S.rq gr s)++X.drop j).map ci)
theorem nC (os:List UInt8):∀k,(S.an os k).Perm ((List.range k).map fun i:Nat=>(i:Int))
 | 0=>.refl _
 | k+1=>by
  rw[List.range_succ,List.map_append,S.an]
  refine List.perm_middle.trans ?_
  rw[List.take_append_drop]
  exact ((nC os k).cons _).trans (List.perm_append_comm (l₁:=[(k:Int)]))
structure Num (n:Nat) (pl:List Int) (num:Nat->Nat):Prop where
 len:pl.length=n
 at_:∀k,k<n->pl[k]?=some (num k:Int)
 lt:∀k,k<n->num k<n
 inj:∀i j,i<n->j<n->num i=num j->i=j
 sur:∀u,u<n->∃k,k<n/\num k=u
theorem BB (os:List UInt8)(n:Nat):∃num,Num n (S.an os n) num:=by
 have hp:=nC os n
 have hl:=ja os n
 have hmem:∀x∈S.an os n,∃i:Nat,i<n/\x=(i:Int):=fun x hx=>by
  have:=hp.mem_iff.1 hx
  obtain ⟨i,hi,rfl⟩:=List.mem_map.1 this
  exact ⟨i,List.mem_range.1 hi,rfl⟩
 have hnd:(S.an os n).Nodup:=by
  rw[hp.nodup_iff]
  refine List.Pairwise.map _ ?_ (List.nodup_range (n:=n))
  intro a b h e
  exact h (by omega)
 have hat:∀k,k<n->(S.an os n)[k]?=some (((S.an os n)[k]?.getD 0).toNat:Int)/\((S.an os n)[k]?.getD 0).toNat<n:=fun k hk=>by
  have hk':k<(S.an os n).length:=by omega
  have e:=List.getElem?_eq_getElem hk'
  obtain ⟨i,hi,h⟩:=hmem _ (List.getElem_mem hk')
  rw[e,Option.getD_some,h]
  simp[hi]
 refine ⟨fun k=>((S.an os n)[k]?.getD 0).toNat,hl,fun k hk=>(hat k hk).1,fun k hk=>(hat k hk).2,fun i j hi hj h=>?_,fun u hu=>?_⟩
 ·have h1:=(hat i hi).1
  have h2:=(hat j hj).1
  refine (List.getElem?_inj (by omega) hnd).1 ?_
  rw[h1,h2]
  exact congrArg (fun x:Nat=>some (x:Int)) h
 ·have:(u:Int)∈S.an os n:=hp.mem_iff.2 (List.mem_map.2 ⟨u,List.mem_range.2 hu,rfl⟩)
  obtain ⟨k,hk,he⟩:=List.mem_iff_getElem.1 this
  refine ⟨k,by omega,?_⟩
  rw[List.getElem?_eq_getElem hk,he];rfl
def LNX (X:Ky->Prop)(n:Nat)(D:ND):Ky->Prop:=fun k=>LN n D k\/X k
def X1:Ky->Prop:=fun k=>k=(0,1)
def X2:Ky->Prop:=fun k=>k=(0,1)\/k=(0,2)
structure DN (X:Ky->Prop) (r0:List AV) (n q K:Nat) (gr:Int) (V:Ky->AV) (E:Ky->En) (D:ND) (g:G):Prop where
 hp:Hp g 2 (LNX X n D) V E
 bn:BN K n V E D
 vb:V (0,1)=.hptr q 0 0 0
 bx:E (0,1)=.bx [.int .i64 gr,V (0,0)]
 h0:g.h.get 0=.cells 3 [r0] 0 false false
 h1:g.h.get 1=.cells 2 [[.int .i64 0,.nils]] 0 false false
structure NumI (n:Nat) (num:Nat->Nat) (Y:List Nat):Prop where
 l:Y.length=n
 b:∀i,i<n->∀u,(Par Y (num i)).testBit u=true->∃k,k<i/\u=num k
theorem wY {n:Nat}{num:Nat->Nat}:NumI n num (List.replicate n 0):=by
 refine ⟨by simp,fun i hi u h=>?_⟩
 have:Par (List.replicate n 0) (num i)=0:=by
  unfold Par
  rw[List.getElem?_replicate]
  split<;>rfl
 rw[this,Nat.zero_testBit] at h;cases h
theorem yE {n i k x:Nat}{num:Nat->Nat}{pl:List Int}{Y:List Nat}(hn:Num n pl num)(h:NumI n num Y)(hi:i<n)(hk:k<i)(hx:Y[num i]?=some x):NumI n num (Y.set (num i) (x ||| 2 ^ num k)):=by
 refine ⟨by simp[h.l],fun j hj u hu=>?_⟩
 have hil:=(List.getElem?_eq_some_iff.1 hx).1
 unfold Par at hu
 by_cases e:i=j
 ·subst e
  rw[List.getElem?_set_self hil,Option.getD_some,Nat.testBit_or,Bool.or_eq_true] at hu
  rcases hu with hu | hu
  ·exact h.b i hi u (by rw[Par,hx];exact hu)
  ·rw[Nat.testBit_two_pow,decide_eq_true_iff] at hu
   exact ⟨k,hk,hu.symm⟩
 ·rw[List.getElem?_set_ne fun e'=>e (hn.inj i j hi hj e')] at hu
  exact h.b j hj u hu
theorem zI {n:Nat}{num:Nat->Nat}{pl:List Int}{Y:List Nat}(hn:Num n pl num)(h1:1<=n)(h8:n<=8)(h:NumI n num Y):GOk Y:=by
 have hp:∀x∈Y,x<2 ^ Y.length:=fun x hx=>by
  obtain ⟨v,hv,rfl⟩:=List.mem_iff_getElem.1 hx
  rw[h.l] at hv ⊢
  obtain ⟨i,hi,rfl⟩:=hn.sur v hv
  refine Nat.lt_pow_two_of_testBit _ fun u hu=>?_
  rw[<-Bool.not_eq_true]
  intro hb
  obtain ⟨k,hk,rfl⟩:=h.b i hi u (by rw[Par,List.getElem?_eq_getElem (by rw[h.l];exact hv)];exact hb)
  have:=hn.lt k (by omega)
  omega
 obtain ⟨rk,hrk⟩:∃rk:Nat->Nat,∀i,i<n->rk (num i)=i:=by
  have:∀v,∃r:Nat,∀i,i<n->num i=v->r=i:=fun v=>by
   by_cases hv:v<n
   ·obtain ⟨k,hk,e⟩:=hn.sur v hv
    exact ⟨k,fun i hi e'=>hn.inj k i hk hi (by rw[e,e'])⟩
   ·exact ⟨0,fun i hi e=>absurd (hn.lt i hi) (by omega)⟩
  exact ⟨fun v=>Classical.choose (this v),fun i hi=>Classical.choose_spec (this (num i)) i hi rfl⟩
 refine ⟨by rw[h.l];exact h1,by rw[h.l];exact h8,hp,qW hp (rk:=rk) fun u v e=>?_⟩
 have hv:=(jm hp e).2
 rw[h.l] at hv
 obtain ⟨i,hi,rfl⟩:=hn.sur v hv
 obtain ⟨k,hk,rfl⟩:=h.b i hi u e
 rw[hrk i hi,hrk k (by omega)]
 exact hk
structure DAok (D:ND) (n i:Nat) (num:Nat->Nat):Prop where
 e:∀v,v<n->D.P v=[]/\D.m v=0
 c:∀k,k<i->D.c (num k)=2\/D.c (num k)=3
 o:∀u,D.o u=0
def LDA (n q:Nat)(r5:AV):List (Nat×AV):=[(1,.hptr 0 0 0 0),(2,.hptr 1 0 0 0),(3,.int .i64 (n:Int)),(4,.hptr q 0 0 0),(5,r5)]
structure DA (r0:List AV) (n q:Nat) (gr:Int) (r5:AV) (num:Nat->Nat) (i:Nat) (t:T) (g:G):Prop where
 st:St t (LDA n q r5)
 w:∃w:Nat,tat t 6=.int .i64 (w:Int)/\w<=3 ^ i
 hd:∃V E D,DN X1 r0 n q 1000 gr V E D g/\DAok D n i num
section
variable {κ:Type} [DecidableEq κ]{g:G}{b:Nat}{L:κ->Prop}{V:κ->AV}{E:κ->En}{k:κ}
end
theorem xk (m n:Nat):∃z:Nat,bK .shr (.int .u8 (m:Int)) (.int .u64 (n:Int))=.val (.int .u8 (z:Int)) :=
 ⟨m / 2 ^ (Nat.min n 8),rfl⟩
theorem xz (m n:Nat):∃z:Int,bK .and (.int .u8 (m:Int)) (.int .u8 (n:Int))=.val (.int .u8 z):=by
 have:∃z:Int,Op.intBits .and .u8 (.ofNat m) (.ofNat n)=.pure (.int .u8 z):=⟨_,rfl⟩
 obtain ⟨z,hz⟩:=this
 refine ⟨z,?_⟩
 show orV (jo (Op.intBits .and .u8 (.ofNat m) (.ofNat n)))=_
 rw[hz];rfl
structure DB (D:ND) (n i v:Nat) (num:Nat->Nat):Prop where
 c:∀u,u<n->D.c u=2\/D.c u=3
 p:∀u,u<n->(D.P u).length<=3/\∀y∈D.P u,0<=y/\y<n
 m:∀u,u<n->D.m u<=64
 o:∀u,D.o u=0
 f:∀k,i<k->k<n->D.P (num k)=[]/\D.m (num k)=0
def S.a9 (P0:List Int)(c0:Nat->Int):Int:=S.ax (P0.map fun y=>c0 y.toNat)
structure DOk (gr:Int) (D:ND) (n i:Nat) (num:Nat->Nat):Prop where
 s:∀u,u<n->(D.P u).Pairwise (·<·)
 a:∀k,k<n->∀y∈D.P (num k),∃k',k'<k/\y=(num k':Int)
 w:∀k,k<i->(D.m (num k):Int)=S.a9 (D.P (num k)) D.c
 r:∀u r,u<n->r<D.m u->Ch gr (D.c u) (D.R u r)
structure DP (r0 prow:List AV) (n q i p v:Nat) (gr:Int) (r5:AV) (num:Nat->Nat) (g:G) (V:Ky->AV) (E:Ky->En) (D:ND):Prop where
 dn:DN X2 r0 n q 1000 gr V E D g
 pb:V (0,2)=.hptr p 0 0 0/\E (0,2)=.bx prow
 db:DB D n i v num
 mv:D.m v=0
 ok:DOk gr D n i num
end
end Hx
end
section
namespace Hx
open Go
noncomputable section
abbrev rm:=List UInt8×List UInt8
def Cm:VS:=fun P k h v=>∃p:List Nat,(GOk p/\p.length<=6)/\One p P k h v
def LGp (n:Nat)(u v:AV):List (Nat×AV):=[(1,.hptr 0 0 0 0),(3,.int .i64 (n:Int)),(4,u),(8,v)]
structure GD (a b u v:AV) (n:Nat) (num:Nat->Nat) (pl:List Int) (Y:List Nat) (g:G):Prop where
 h0:g.h.get 0=.cells 2 [[a,b]] 0 false false
 nu:Own g 1 u 1 (pl.map ci)
 ou:Own g 1 v 1 (Y.map cu)
 ne:∀i,vid u=some i->vid v≠some i
 ni:NumI n num Y
section
variable {d n:Nat}{a b u v:AV}{num:Nat->Nat}{pl:List Int}
theorem wJ {Q:QT}{t:T}{g:G}{Y:List Nat}{i:Nat}{ps:List UInt8}{rows:List (List AV)}(n6:n<=6)(hN:Num n pl num)(hi:i<n)(hip:i<ps.length)(ra:∀h,au h 1 a=some rows)(rl:rows.length=ps.length)(rg:∀(k:Nat) (x:UInt8),ps[k]?=some x->rows[k]?=some [.int .u8 (x.toNat:Int)])
  (hD:GD a b u v n num pl Y g) (ht:St t ((9,.int .i64 (i:Int))::LGp n u v)) (h10:tat t 10=.int .i64 0) (h11:tat t 11=.int .i64 0)
  (fin:∀t g' Y',St t ((9,.int .i64 (i:Int))::LGp n u v)->GD a b u v n num pl Y' g'->g.nx<=g'.nx->Q (.exit 4) t [] g'):wpL (wp C0 d none cd) Q t [] g:=by
 simp only[cd,dW]
 refine qr i (by omega) (fun k t df g'=>df=[]/\g.nx<=g'.nx/\St t ((9,.int .i64 (i:Int))::LGp n u v)/\(∃c:Int,0<=c/\c<=3/\tat t 10=.int .i64 c)/\∃Y',GD a b u v n num pl Y' g')
  ⟨rfl,Nat.le_refl _,ht,⟨0,by omega,by omega,h10⟩,Y,hD⟩ h11 (by decide)
  (by rintro k t df g v s (rfl | rfl | rfl) ⟨a1,a0,⟨b1,b2,b3,b4,b5,-⟩,⟨c,c1,c2,c3⟩,a2⟩<;>exact ⟨a1,a0,by simp[St,LGp,sx,b1,b2,b3,b4,b5],⟨c,c1,c2,by simp[sx,c3]⟩,a2⟩) ?_ ?_ ?_
 ·rintro k t df g' hk ⟨rfl,hn,⟨h9,h1,h3,h4,h8,-⟩,⟨c,c1,c2,h10⟩,Y',hD⟩ h11
  simp only[sz,simprocAttr,h9,h11]
  exact ⟨hn,by simp[St,LGp,sx,h1,h3,h4,h8,h9],⟨c,c1,c2,h10⟩,Y',hD⟩
 ·rintro k t df g1 hk ⟨rfl,hn,⟨h9,h1,h3,h4,h8,-⟩,⟨c,c1,c2,h10⟩,Y',hD⟩ h11
  obtain ⟨x,hx⟩:∃x,ps[i]?=some x:=⟨_,List.getElem?_eq_getElem hip⟩
  have hx8:x.toNat<256:=x.toNat_lt
  have hrx:=rg i x hx
  have hlt:i<rows.length:=by omega
  obtain ⟨z1,s1⟩:=xk x.toNat k
  obtain ⟨z2,s2⟩:=xz z1 1
  have s2:bK .and (.int .u8 (z1:Int)) (.int .u8 1)=.val (.int .u8 z2):=s2
  have wk:IntKind.wrap .u64 (k:Int)=(k:Int):=dy (by omega) (by omega)
  have lg1:aA (.cells 2 [[a,b]] 0 false false) 0 0 false 1 0=.val a:=rfl
  have ry:oC a=true:=qy (ra .nil) hlt
  by_cases e1:z2=1
  ·by_cases e2:c<3
   ·subst e1
    have hpl:=hN.at_ i hi
    have hpk:=hN.at_ k (by omega)
    have hnl:=hN.lt i hi
    have hkl:=hN.lt k (by omega)
    have q1:(pl.map ci)[i]?=some (ci (num i:Int)):=by rw[List.getElem?_map,hpl];rfl
    have q2:(pl.map ci)[k]?=some (ci (num k:Int)):=by rw[List.getElem?_map,hpk];rfl
    have z1:i<(pl.map ci).length:=by rw[List.length_map,hN.len];exact hi
    have z2:k<(pl.map ci).length:=by rw[List.length_map,hN.len];omega
    have rn:=hD.nu.rows
    have ro:=hD.ou.rows
    obtain ⟨y,hy⟩:∃y,Y'[num i]?=some y:=⟨_,List.getElem?_eq_getElem (by rw[hD.ni.l];exact hnl)⟩
    have q3:(Y'.map cu)[num i]?=some (cu y):=by rw[List.getElem?_map,hy];rfl
    have z3:num i<(Y'.map cu).length:=by rw[List.length_map,hD.ni.l];exact hnl
    have hG:=zI hN (by omega) (by omega) hD.ni
    have hyl:y<18446744073709551616:=by
     have:=hG.hp y (List.mem_of_getElem? hy)
     have:=kw hG.l8
     omega
    have hsh:bK .shl (.int .u64 1) (.int .u64 (num k:Int))=.val (.int .u64 ((2 ^ num k:Nat):Int)):=by rw[bZ,iC (by omega)]
    have h2k:(2:Nat) ^ num k<=2 ^ 6:=Nat.pow_le_pow_right (by decide) (by omega)
    have wn:IntKind.wrap .u64 (num k:Int)=(num k:Int):=dy (by omega) (by omega)
    have wc:IntKind.wrap .i64 (c+1)=c+1:=fd (by omega) (by omega)
    have hni:=yE hN hD.ni hi hk hy
    simp only[sz,simprocAttr,sf,h1,h4,h8,h9,h10,h11,hD.h0,lg1,ra,hlt,hrx,ry,wk,s1,s2,e2,rn,ro,q1,q2,q3,z1,z2,z3,ci,cu,wn,hsh,fe y _ hyl (show (2:Nat) ^ num k<18446744073709551616 by omega)]
    refine pW (v:=v) (sz:=1) (n:=1) (i:=num i) (off:=0) (x:=.int .u64 ((y ||| 2 ^ num k:Nat):Int)) (row':=cu (y ||| 2 ^ num k)) (hD.ou.fr (by simp;omega) fun i _=>by simp) q3 rfl rfl rfl fun g4 hu4 n4 f4=>?_
    rw[show ((Y'.map cu).set (num i) (cu (y ||| 2 ^ num k)))=(Y'.set (num i) (y ||| 2 ^ num k)).map cu from by rw[<-List.map_set]] at hu4
    have f4':∀i,vid v≠some i->g4.h.get i=g1.h.get i:=fun i hi=>by rw[f4 i hi];simp
    have n4':g1.nx<=g4.nx:=by rw[n4];simp;omega
    simp only[sz,simprocAttr,h10,wc]
    refine ⟨?_,?_⟩
    ·simp only[List.reverse_cons,List.reverse_nil,List.nil_append,List.cons_append]
     exact kn [false,false,false,false,false,false,false,false,false,false,false,false,false,false,false,false,false,false,false,false,true] [] (by simp[All2,aq,aR]) (by decide) (by simp)
    refine ⟨⟨by omega,by simp[St,LGp,sx,h1,h3,h4,h8,h9],⟨c+1,by omega,by omega,rfl⟩,_,⟨?_,?_,?_,hD.ne,hni⟩⟩,h11⟩
    ·simp only[bumpG_h]
     rw[f4' 0 fun e=>by have:=(hD.ou.lt e).1;omega,hD.h0]
    ·exact hD.nu.fr (by simp;omega) fun i hi=>by simp only[bumpG_h];exact f4' i (hD.ne i hi)
    ·exact hu4.fr (by simp) fun i _=>by simp
   ·simp only[sz,simprocAttr,h1,h8,h9,h10,h11,hD.h0,lg1,ra,hlt,hrx,ry,wk,s1,s2,e1,e2]
    exact ⟨hn,by simp[St,LGp,sx,h1,h3,h4,h8,h9],⟨c,c1,c2,rfl⟩,Y',hD⟩
  ·simp only[sz,simprocAttr,h1,h8,h9,h11,hD.h0,lg1,ra,hlt,hrx,ry,wk,s1,s2,e1]
   exact ⟨hn,by simp[St,LGp,sx,h1,h3,h4,h8,h9],⟨c,c1,c2,h10⟩,Y',hD⟩
 ·rintro t df g' ⟨rfl,hn,ht,-,Y',hD⟩
  exact fin t g' Y' ht hD hn
theorem xq {Q:QT}{t:T}{g:G}{Y:List Nat}{ps:List UInt8}{rows:List (List AV)}(n6:n<=6)(hN:Num n pl num)(al:∀g,eV .slice a g=.val (.int .i64 (ps.length:Int)))(ra:∀h,au h 1 a=some rows)(rl:rows.length=ps.length)(rg:∀(k:Nat) (x:UInt8),ps[k]?=some x->rows[k]?=some [.int .u8 (x.toNat:Int)])
  (hD:GD a b u v n num pl Y g) (ht:St t (LGp n u v)) (h9:tat t 9=.int .i64 0)
  (fin:∀t g' Y',St t (LGp n u v)->GD a b u v n num pl Y' g'->Q (.exit 2) t [] g'):wpL (wp C0 d none b_) Q t [] g:=by
 simp only[b_,d8]
 have lg1:aA (.cells 2 [[a,b]] 0 false false) 0 0 false 1 0=.val a:=rfl
 refine qr (min n ps.length) (by omega) (fun i t df g'=>df=[]/\St t (LGp n u v)/\∃Y',GD a b u v n num pl Y' g')
  ⟨rfl,ht,Y,hD⟩ h9 (by decide)
  (by rintro k t df g v s (rfl | rfl | rfl) ⟨a1,⟨b1,b2,b3,b4,-⟩,a2⟩<;>exact ⟨a1,by simp[St,LGp,sx,b1,b2,b3,b4],a2⟩) ?_ ?_ ?_
 ·rintro i t df g' hk ⟨rfl,⟨h1,h3,h4,h8,-⟩,Y',hD⟩ h9
  by_cases c1:i<n
  ·simp only[sz,simprocAttr,h1,h3,h9,hD.h0,lg1,al,show (i:Int)<(n:Int) from by omega]
   refine ⟨?_,by simp[St,LGp,sx,h1,h3,h4,h8],Y',hD⟩
   congr 1
   exact decide_eq_decide.2 (by omega)
  ·simp only[sz,simprocAttr,h3,h9,show ¬(i:Int)<(n:Int) from by omega]
   refine ⟨?_,by simp[St,LGp,sx,h1,h3,h4,h8],Y',hD⟩
   congr 1
   exact (decide_eq_false (by omega)).symm
 ·rintro i t df g1 hk ⟨rfl,⟨h1,h3,h4,h8,-⟩,Y',hD⟩ h9
  simp only[sz,simprocAttr]
  refine wJ (i:=i) (ps:=ps) n6 hN (by omega) (by omega) ra rl rg hD (by simp[St,LGp,sx,h1,h3,h4,h8,h9]) (by simp[sx]) (by simp[sx]) ?_
  rintro t g' Y' ⟨h9,ht⟩ hD hn
  simp only[sz,simprocAttr]
  exact ⟨⟨ht,Y',hD⟩,h9⟩
 ·rintro t df g' ⟨rfl,ht,Y',hD⟩
  exact fin t g' Y' ht hD
theorem wm {Q:QT}{t:T}{g:G}{os:List UInt8}{rows:List (List AV)}(n6:n<=6)(bl:∀g,eV .slice b g=.val (.int .i64 (os.length:Int)))(rb:∀h,au h 1 b=some rows)(rl:rows.length=os.length)(rg:∀(k:Nat) (x:UInt8),os[k]?=some x->rows[k]?=some [.int .u8 (x.toNat:Int)])
  (h0:g.h.get 0=.cells 2 [[a,b]] 0 false false) (hn1:1<=g.nx) (ht:St t [(1,.hptr 0 0 0 0),(3,.int .i64 (n:Int)),(4,.nils)]) (h5:tat t 5=.int .i64 0)
  (fin:∀t g' u,St t [(1,.hptr 0 0 0 0),(3,.int .i64 (n:Int)),(4,u)]->g'.h.get 0=.cells 2 [[a,b]] 0 false false->1<=g'.nx->Own g' 1 u 1 ((S.an os n).map ci)->Q (.exit 0) t [] g'):wpL (wp C0 d none b9) Q t [] g:=by
 simp only[b9,dQ]
 have lg2:aA (.cells 2 [[a,b]] 0 false false) 0 0 false 1 1=.val b:=rfl
 refine qr n (by omega) (fun j t df g=>df=[]/\g.h.get 0=.cells 2 [[a,b]] 0 false false/\1<=g.nx/\∃u,St t [(1,.hptr 0 0 0 0),(3,.int .i64 (n:Int)),(4,u)]/\Own g 1 u 1 ((S.an os j).map ci))
  ⟨rfl,h0,hn1,.nils,ht,.inl ⟨rfl,rfl⟩⟩ h5 (by decide)
  (by rintro k t df g v s (rfl | rfl | rfl) ⟨a1,a2,a3,u,⟨b1,b2,b3,-⟩,a4⟩<;>exact ⟨a1,a2,a3,u,by simp[St,sx,b1,b2,b3],a4⟩) ?_ ?_ ?_
 ·rintro j t df g hj ⟨rfl,hg,hnx,u,⟨h1,h3,h4,-⟩,hu⟩ h5
  simp only[sz,simprocAttr,h3,h5]
  exact ⟨hg,hnx,u,by simp[St,sx,h1,h3,h4],hu⟩
 ·rintro j t df g hj ⟨rfl,hg,hnx,u,⟨h1,h3,h4,-⟩,hu⟩ h5
  have hpl:((S.an os j).map ci).length=j:=by rw[List.length_map,ja]
  have hle:S.aD os j<=j:=by
   unfold S.aD;split
   ·have:=Nat.mod_lt ((os[j]?.map UInt8.toNat).getD 0) (show 0<j+1 by omega);omega
   ·omega
  have key:∀(t:T) (Q:QT),St t [(1,.hptr 0 0 0 0),(3,.int .i64 (n:Int)),(4,u)]->tat t 5=.int .i64 (j:Int)->tat t 6=.int .i64 (S.aD os j:Int) ->
    (∀(t':T) (g':G),(∃u,St t' [(1,.hptr 0 0 0 0),(3,.int .i64 (n:Int)),(4,u)]/\Own g' 1 u 1 ((S.an os (j+1)).map ci))->tat t' 5=.int .i64 (j:Int)->g'.h.get 0=.cells 2 [[a,b]] 0 false false->1<=g'.nx->Q .norm t' [] g') ->
    wp C0 d none cj Q t [] g:=by
   rintro t Q ⟨h1,h3,h4,-⟩ h5 h6 kk
   obtain ⟨y1,s1,w1⟩:=uh hu (n:=S.aD os j) (by omega)
   simp only[sz,simprocAttr,cj,h4,h6,List.head?_nil,List.head?_cons,s1]
   refine fO (rows:=[]) (b:=1) (.inl ⟨rfl,rfl⟩) w1 hnx (by simp[ei];omega) fun v1 g1 hv1 n1 f1 vid1 _=>?_
   simp only[sz,simprocAttr,h5]
   refine fO (new:=[ci (j:Int)]) (hv1.step (Fr.new _ _)) (by simp[sx,sy,ci]) (by simp) (by simp[ei,ja];omega) fun v2 g2 hv2 n2 f2 vid2 _=>?_
   have hu1:Own g1 1 u 1 ((S.an os j).map ci):=hu.fr n1 fun i hi=>f1 i (hu.lt hi).2 (by simp[vid])
   have hnv:∀i,i<g.nx->vid v1≠some i:=fun i hi e=>by
    rcases vid1 with h | ⟨i',h,hi'⟩
    ·rw[h] at e;cases e
    ·rw[h] at e;injection e with e;omega
   have hu2:Own g2 1 u 1 ((S.an os j).map ci):=hu1.fr (by simp at n2;omega) fun i hi=>by
    have hlt:=(hu.lt hi).2
    rw[f2 i (by simp;omega) (hnv i hlt),G.new_h,cL _ _ _ (by omega)]
   obtain ⟨y2,s2,w2⟩:=uu hu2 (n:=S.aD os j) (by omega)
   simp only[sz,simprocAttr,h4,h6,List.head?_nil,List.head?_cons,s2]
   refine fO hv2 w2 (by simp at n2;omega) (by simp[ei,ja];omega) fun v3 g3 hv3 n3 f3 _ _=>?_
   simp only[sz,simprocAttr]
   refine kk _ _ ⟨v3,by simp[St,sx,h1,h3],?_⟩ (by simp[sx,h5]) ?_ (by simp at n2;omega)
   ·simpa [S.an,List.map_take,List.map_drop] using hv3
   ·rw[f3 0 (by simp at n2;omega) (fun e=>by have:=(hv2.lt e).1;omega),f2 0 (by simp) (hnv 0 (by omega)),G.new_h,cL _ _ _ (by omega),f1 0 (by omega) (by simp[vid]),hg]
  by_cases hb:j<os.length
  ·obtain ⟨y,hy⟩:∃y,os[j]?=some y:=⟨_,List.getElem?_eq_getElem hb⟩
   have z1:=rg j y hy
   have hy8:y.toNat<256:=y.toNat_lt
   have hlt:j<rows.length:=by omega
   have ry:oC b=true:=qy (rb .nil) hlt
   have hat:((S.aD os j:Nat):Int)=(y.toNat:Int) % ((j:Int)+1):=by
    unfold S.aD;rw[if_pos hb,hy];simp
   simp only[sz,simprocAttr,h1,h5,hg,lg2,bl,show (j:Int)<(os.length:Int) from by omega,rb,hlt,z1,ry,fd (show -9223372036854775808<=(y.toNat:Int) by omega) (show (y.toNat:Int)<9223372036854775808 by omega),fd (show -9223372036854775808<=(j:Int)+1 by omega) (show (j:Int)+1<9223372036854775808 by omega),zP .i64 (show (0:Int)<=(y.toNat:Int) by omega) (show 0<(j:Int)+1 by omega)]
   refine key _ _ (by simp[St,sx,h1,h3,h4]) (by simp[sx,h5]) (by simp[sx,hat]) fun t' g' eu e5 e0 en=>?_
   simp only[sy,e5,e0]
   exact ⟨en,eu⟩
  ·have hat:S.aD os j=0:=by unfold S.aD;rw[if_neg hb]
   simp only[sz,simprocAttr,h1,h5,hg,lg2,bl,show ¬(j:Int)<(os.length:Int) from by omega]
   refine key _ _ (by simp[St,sx,h1,h3,h4]) (by simp[sx,h5]) (by simp[sx,hat]) fun t' g' eu e5 e0 en=>?_
   simp only[sy,e5,e0]
   exact ⟨en,eu⟩
 ·rintro t df g ⟨rfl,hg,hnx,u,ht,hu⟩
  exact fin t g u ht hg hnx hu
theorem w7 {k:Nat}{g:G}{P:Nat->Prop}{v:AV}{x:rm}(hd:0<d)(hm:Agg x P k g.h v) :
  ∃r,aE C0 d N.aD [v] g=.val r/\Cm NoP 0 .nil r:=by
 obtain ⟨v',e,cs,rfl,hc⟩:=yZ (qF x) (by decide) d hm
 obtain ⟨_,_,rfl,hA',hB'⟩:=dz.1 hc
 obtain ⟨a,rfl,hA⟩:=aS.1 hA'
 obtain ⟨b,rfl,hB⟩:=aS.1 hB'
 obtain ⟨rows,r1,r2,r3,r4⟩:=hB.all
 have r1:∀h',au h' 1 b=some rows:=r1
 obtain ⟨rows2,q1,q2,q3,q4⟩:=hA.all
 have q1:∀h',au h' 1 a=some rows2:=q1
 have rg:∀(k:Nat) (y:UInt8),x.2[k]?=some y->rows[k]?=some [.int .u8 (y.toNat:Int)]:=fun k y hy=>by
  obtain ⟨row,z1,z2⟩:=r3 k y hy
  rw[z1,yC.1 z2]
 have qg:∀(k:Nat) (y:UInt8),x.1[k]?=some y->rows2[k]?=some [.int .u8 (y.toNat:Int)]:=fun k y hy=>by
  obtain ⟨row,z1,z2⟩:=q3 k y hy
  rw[z1,yC.1 z2]
 obtain ⟨n,hn⟩:∃n,n=min (max x.1.length 1) 6:=⟨_,rfl⟩
 have n1:1<=n:=by omega
 have n6:n<=6:=by omega
 obtain ⟨num,hN⟩:=BB x.2 n
 rw[iA]
 refine jF i8 (xs:=[.agg ([a]++[b])]) (by simp only[aF,e]) (by simp[dh]) (v6 fun o=>io _) (by decide) hd ?_
 have lg1:aA (.cells 2 [[a,b]] 0 false false) 0 0 false 1 0=.val a:=rfl
 simp only[sz,simprocAttr,dh,ej,List.cons_append,List.nil_append,lg1,hA.len]
 have en:min (max (x.1.length:Int) 1) 6=(n:Int):=by omega
 rw[en]
 refine wm (a:=a) (b:=b) (n:=n) (os:=x.2) n6 hB.len r1 r2 rg (by simp[sx]) (by simp) (by simp[St,sx]) (by simp[sx]) ?_
 rintro t g u ⟨h1,h3,h4,-⟩ g0 hnx hu
 simp only[sz,simprocAttr,ed,h3]
 refine vo (b:=1) (n:=n) (bytes:=8) (sz:=1) (zero:=[.int .u64 0]) (by unfold ei;omega) (by unfold ei;omega) hnx fun w g1 hw n1' f1 hvid=>?_
 have hN0:NumI n num (List.replicate n 0):=wY
 have e0:(List.replicate n [AV.int .u64 0])=(List.replicate n 0).map cu:=by rw[List.map_replicate];rfl
 rw[e0] at hw
 have hD:GD a b u w n num (S.an x.2 n) (List.replicate n 0) g1:=⟨by rw[f1 0 (by omega),g0],hu.fr (by omega) fun i hi=>f1 i (hu.lt hi).2,hw,fun i hi e=>by rw[hvid] at e;injection e with e;have:=(hu.lt hi).2;omega,hN0⟩
 simp only[sz,simprocAttr]
 refine xq (ps:=x.1) n6 hN hA.len q1 q2 qg hD (by simp[St,LGp,sx,h1,h3,h4]) (by simp[sx]) ?_
 rintro t g' Y' ⟨-,-,-,h8,-⟩ hD
 simp only[sz,simprocAttr,dT,h8]
 have hG:=zI hN n1 (by omega) hD.ni
 refine ⟨fun _=>True,Y',⟨hG,by rw[hD.ni.l];exact n6⟩,_,rfl,hD.ou.nats' (by rw[hD.ni.l];omega) fun y hy=>?_⟩
 have:=hG.hp y hy
 have:=kw hG.l8
 omega
end
end
end Hx
end
section
namespace Hx
open Go
noncomputable section
theorem A7 {w:AV}{l:List Nat}(hw:SlR NoP 0 .nil l w)(hr:Raw w){c:Nat}(hc:c<=l.length) :
  ∃w',(∀g,sS 1 w none (some (.int .i64 (c:Int))) g=.val w')/\SlR NoP 0 .nil (l.take c) w'/\Raw w':=by
 have hlt:(l.take c).length<9223372036854775808:=by have:=hw.1;rw[List.length_take];omega
 rcases hr with rfl | ⟨rows,rfl⟩
 ·have hl:l=[]:=hw.2
  subst hl
  have:c=0:=by simpa using hc
  subst this
  exact ⟨.nils,fun g=>rfl,⟨hlt,by simp[SlV]⟩,.inl rfl⟩
 ·obtain ⟨h0,h1,h2⟩:=(show 0<=0/\(1=Rp.sz Nat\/rows=[])/\All2 (Rp.rp NoP 0 .nil) l rows from hw.2)
  have hlen:=h2.len
  refine ⟨.tsl 0 1 (rows.take c),fun g=>?_,⟨hlt,?_⟩,.inr ⟨_,rfl⟩⟩
  ·show orV (match aM (aN rows) (aN rows) (some (.int .i64 (.ofNat c))) with
    | none=>none
    | some h=>match aM 0 h none with
     | none=>none
     | some l=>af (Nat.beq 1 1) (some (.tsl 0 1 (el (h - l) (dU l rows)))) none)=_
   have:aM (aN rows) (aN rows) (some (.int .i64 (.ofNat c)))=some c:=by
    show af (Nat.ble c (aN rows)) (some c) none=_
    rw[aa,if_pos]
    rw[ak,<-hlen];simp;omega
   rw[this]
   show orV (af (Nat.beq 1 1) (some (AV.tsl 0 1 (el (c - 0) (dU 0 rows)))) none)=_
   rw[show Nat.beq 1 1=true from rfl,bif'_true,aQ,aP,List.drop_zero,Nat.sub_zero];rfl
  ·exact ⟨Nat.le_refl _,h1.elim .inl (fun h=>.inr (by rw[h];simp)),h2.take c⟩
def GsV:VS:=fun P k h v=>∃y:List Nat×List Nat,True/\Agg y P k h v
theorem BM:Snb GsV 1:=v6 fun o=>qF _
theorem ue {d:Nat}{g:G}{x:rm}{raw:List Nat}{w:AV}{xs:List AV}(hd:0<d)(hx:Rp.rp NoP 0 .nil x xs)(hw:SlR NoP 0 .nil raw w)(hr:Raw w) :
  ∃r,aE C0 d N.aG [w,.agg xs] g=.val r/\GsV NoP 0 .nil r:=by
 have hm:∀h,Agg x NoP 0 h (.agg xs):=fun h=>⟨_,rfl,Rp.tree hx (Nat.le_refl _)⟩
 have e1:=oU d (hm g.h)
 have e2:=kU (h:=g.h) d (hw.tree (Nat.le_refl 0))
 obtain ⟨_,_,rfl,ha',hb'⟩:=dz.1 hx
 obtain ⟨a,rfl,-⟩:=aS.1 ha'
 obtain ⟨b,rfl,-⟩:=aS.1 hb'
 rw[lE]
 refine jF m6 (xs:=[w,.agg ([a]++[b])]) (by simp only[aF,e1,e2]) (by simp[gi]) BM (by decide) hd ?_
 obtain ⟨w1,s1,hw1,hr1⟩:=A7 hw hr (c:=min raw.length 9) (by omega)
 obtain ⟨w2,s2,hw2,-⟩:=A7 hw1 hr1 (c:=0) (by omega)
 have mn9:min (raw.length:Int) 9=((min raw.length 9:Nat):Int):=by omega
 have s2:∀g,sS 1 w1 none (some (.int .i64 0)) g=.val w2:=s2
 have lw:=hw.len
 have lw1:=hw1.len
 have kR:=fun g:G=>ql (d:=d+1) (g:=g) (Nat.succ_pos d) (hw1.tree (h':=g.h) (Nat.le_refl 0))
 have ld:aA (.cells 2 [[a,b]] 0 false false) 0 0 true 2 0=.val (.agg [a,b]):=rfl
 have rest:∀(t:T) (g:G) (wl:AV) (l:List Nat),SlR NoP 0 .nil l wl->St t [(0,wl),(3,.hptr 0 0 0 0),(4,.hptr 1 0 0 0)]->g.h.get 0=.cells 2 [[a,b]] 0 false false->g.h.get 1=.cells 2 [[.nils,.nils]] 0 false false ->
   wp C0 (d+1) none eg (fnQ C0 (d+1) [SR.cell true 2 4] fun v g'=>∃P,GsV P 0 g'.h v) t [] g:=by
  rintro t g wl l hwl ⟨h0,h3,h4,-⟩ g0 g1
  simp only[sz,simprocAttr,eg,h0,h3,g0,ld]
  refine nM (w7 (Nat.succ_pos d) (hm _)) ?_
  rintro z ⟨p,-,hz⟩
  have hz:SlR NoP 0 .nil p z:=by
   obtain ⟨z',e,hz'⟩:=aS.1 hz
   injection e with e
   subst e
   exact hz'
  have fw:eR [.nils,.nils] [((0,1),wl),((1,1),z)]=some [wl,z]:=by
   simp[eR,hwl.cell,hz.cell,jv]
   rfl
  simp only[sz,simprocAttr,h4,g1,fw]
  exact ⟨fun _=>True,(l,p),trivial,_,rfl,dz.2 ⟨[wl],[z],rfl,aS.2 ⟨_,rfl,hwl.wide (Nat.le_refl 0)⟩,aS.2 ⟨_,rfl,hz.wide (Nat.le_refl 0)⟩⟩⟩
 simp only[sz,simprocAttr,gi,hQ,List.cons_append,List.nil_append,lw,mn9,List.head?_nil,List.head?_cons,s1,kR]
 cases S.au (raw.take (min raw.length 9)) with
 | false =>
  simp only[sz,simprocAttr]
  exact rest _ _ w1 _ hw1 (by simp[St,sx]) (by simp[sx,H.get_put]) (by simp[sx,H.get_put])
 | true =>
  simp only[sz,simprocAttr,lw1]
  by_cases c:(6:Int)<((raw.take (min raw.length 9)).length:Int)
  ·simp only[sz,simprocAttr,c,List.head?_nil,List.head?_cons,s2]
   exact rest _ _ w2 _ hw2 (by simp[St,sx]) (by simp[sx,H.get_put]) (by simp[sx,H.get_put])
  ·simp only[sz,simprocAttr,c]
   exact rest _ _ w1 _ hw1 (by simp[St,sx]) (by simp[sx,H.get_put]) (by simp[sx,H.get_put])
theorem pM {p l:List Nat}:S.ae p l=0↔GOk p/\S.ah p.length l 0=true:=by
 rw[S.ae]
 cases h1:S.au p with
 | false=>simp;intro h;rw[ie.2 h] at h1;cases h1
 | true =>
  cases h2:S.ah p.length l 0 with
  | false=>simp
  | true=>simp[ie.1 h1]
def LRe (gv:AV)(q:Nat)(A:AV):List (Nat×AV):=[(5,.hptr 1 0 0 0),(8,gv),(21,A)]
def LR3 (j r q:Nat)(gv A T9:AV):List (Nat×AV):=(71,.int .i64 (j:Int))::(11,.hptr r 0 0 0)::(22,.int .i64 (q:Int))::(70,T9)::LRe gv q A
theorem yP {d:Nat}{Q:QT}{t:T}{g:G}{gv A T9:AV}{q:Nat}{p:List Nat}(hd:0<d)(hv:SlR NoP 0 .nil p gv)
  (hix:∀j:Nat,j<3->∃x y z:Nat,x<18446744073709551616/\y<18446744073709551616/\z<18446744073709551616/\ixV true 3 3 T9 (.int .i64 (j:Int))=.val (.agg [.int .u64 (x:Int),.int .u64 (y:Int),.int .u64 (z:Int)]))
  (ht:St t ((22,.int .i64 (q:Int))::(70,T9)::LRe gv q A)) (h71:tat t 71=.int .i64 0)
  (fin:∀t g',St t ((22,.int .i64 (q:Int))::(70,T9)::LRe gv q A)->Fr g g'->Q (.exit 2) t [] g'):wpL (wp C0 d none bD) Q t [] g:=by
 simp only[bD]
 refine mK (m:=3) rfl (by omega) (fun j t df g'=>df=[]/\Fr g g'/\St t ((22,.int .i64 (q:Int))::(70,T9)::LRe gv q A)) ⟨rfl,Fr.refl _,ht⟩ h71 (by decide)
  (by rintro j t df g v s (rfl | rfl | rfl) ⟨a1,a2,⟨b1,b2,b3,b4,b5,-⟩⟩<;>exact ⟨a1,a2,by simp[St,LRe,sx,b1,b2,b3,b4,b5]⟩) ?_ ?_
 ·rintro j t df g1 hj ⟨rfl,hF,h22,h70,h5,h8,h21,-⟩ h71
  obtain ⟨x,y,z,hx,hy,hz,hi⟩:=hix j hj
  have hv':∀h,SlR NoP 0 h p gv:=fun h=>hv.tree (Nat.le_refl 0)
  have kR:=fun g=>wG (d:=d) (g:=g) hd hv hx hz
  have kA:=fun g=>w8 (d:=d) (g:=g) hd hv hx hy hz
  have kF2:∀(g:G) (id:Nat),g.h.get id=.cells 1 [[.int .u64 (x:Int)],[.int .u64 (z:Int)]] 0 false false->id<g.nx->aE C0 d N.af [gv,.hsl id 0 0 2 none] g=.val (.int .i64 (S.ae p [x,z])) :=
   fun g id h hn=>ju hd (hv' g.h) (AG (l:=[x,z]) h hn (by simp) (by simp[hx,hz]))
  have kF3:∀(g:G) (id:Nat),g.h.get id=.cells 1 [[.int .u64 (x:Int)],[.int .u64 (y:Int)],[.int .u64 (z:Int)]] 0 false false->id<g.nx->aE C0 d N.af [gv,.hsl id 0 0 3 none] g=.val (.int .i64 (S.ae p [x,y,z])) :=
   fun g id h hn=>ju hd (hv' g.h) (AG (l:=[x,y,z]) h hn (by simp) (by simp[hx,hy,hz]))
  have i0:∀id,q_ 3 1 (.hptr id 0 0 0) (.int .i64 0)=.val (.hptr id 0 0 0):=fun id=>rfl
  have i1:∀id,q_ 3 1 (.hptr id 0 0 0) (.int .i64 1)=.val (.hptr id 0 0 1):=fun id=>rfl
  have i2:∀id,q_ 3 1 (.hptr id 0 0 0) (.int .i64 2)=.val (.hptr id 0 0 2):=fun id=>rfl
  have l0:aA (.cells 3 [[.int .u64 (x:Int),.int .u64 (y:Int),.int .u64 (z:Int)]] 0 false false) 0 0 false 1 0=.val (.int .u64 (x:Int)):=rfl
  have l1:aA (.cells 3 [[.int .u64 (x:Int),.int .u64 (y:Int),.int .u64 (z:Int)]] 0 false false) 0 0 false 1 1=.val (.int .u64 (y:Int)):=rfl
  have l2:aA (.cells 3 [[.int .u64 (x:Int),.int .u64 (y:Int),.int .u64 (z:Int)]] 0 false false) 0 0 false 1 2=.val (.int .u64 (z:Int)):=rfl
  obtain ⟨r,hr⟩:∃r,r=g1.nx:=⟨_,rfl⟩
  refine gD (P:=fun t' df g'=>df=[]/\St t' ((71,.int .i64 (j:Int))::(11,.hptr r 0 0 0)::(22,.int .i64 (q:Int))::(70,T9)::LRe gv q A)/\Fr g g'/\r<g'.nx/\g'.h.get r=.cells 3 [[.int .u64 (x:Int),.int .u64 (y:Int),.int .u64 (z:Int)]] 0 false false) ?_ ?_
  ·simp only[sz,simprocAttr,h70,h71,hi]
   refine ⟨by simp[St,LRe,sx,h5,h8,h21,h22,h70,h71,hr],⟨by have:=hF.1;simp;omega,fun i hi=>?_⟩,by simp[hr],by simp[H.get_put,hr]⟩
   have:=hF.1
   rw[<-hF.2 i hi]
   simp[H.get_put,show ¬i=g1.nx by omega]
  clear h5 h8 h21 h22 h70 h71 hr
  rintro t df g2 ⟨rfl,⟨h71,h11,h22,h70,h5,h8,h21,-⟩,hF2,hr,hg⟩
  refine gD (P:=fun t' df g'=>df=[]/\g'=g2/\St t' ((12,.int .u64 (S.aC p x z:Int))::(13,.int .i64 (S.ae p [x,z]))::LR3 j r q gv A T9)) ?_ ?_
  ·simp only[sz,simprocAttr,h8,h11,i0,i2,hg,l0,l2,kR]
   simp[St,LR3,LRe,sx,h5,h8,h11,h21,h22,h70,h71]
  clear h5 h8 h11 h21 h22 h70 h71
  rintro t df g3 ⟨rfl,rfl,⟨h12,h13,h71,h11,h22,h70,h5,h8,h21,-⟩⟩
  refine gD (P:=fun t' df g'=>df=[]/\Fr g3 g'/\St t' ((14,.int .i64 (S.ae p [x,z]))::(12,.int .u64 (S.aC p x z:Int))::(13,.int .i64 (S.ae p [x,z]))::LR3 j r q gv A T9)) ?_ ?_
  ·simp only[sz,simprocAttr,h8,h11,i0,i2,hg,l0,l2,vY]
   rw[kF2 _ _ (by simp[H.get_put]) (by simp)]
   simp only[sz,simprocAttr]
   refine ⟨Fr.new _ _,by simp[St,LR3,LRe,sx,h5,h8,h11,h12,h13,h21,h22,h70,h71]⟩
  clear h5 h8 h11 h12 h13 h21 h22 h70 h71
  rintro t df g4 ⟨rfl,hF4,⟨h14,h12,h13,h71,h11,h22,h70,h5,h8,h21,-⟩⟩
  have hg4:g4.h.get r=.cells 3 [[.int .u64 (x:Int),.int .u64 (y:Int),.int .u64 (z:Int)]] 0 false false:=by rw[hF4.2 r hr,hg]
  have hr4:=hF4.1
  refine qD (P:=fun t' df g'=>df=[]/\g'=g4/\St t' (LR3 j r q gv A T9)) ?_ ?_
  ·by_cases c:S.ae p [x,z]=0
   ·obtain ⟨hG,hD⟩:=pM.1 c
    obtain ⟨d1,-,d2,d3⟩:=Bz.1 hD
    have d3:x &&& z=0:=by rw[Nat.zero_or] at d3;exact pN d3
    have kRR:=fun g:G=>qh (d:=d) (g:=g) hd (hv' g.h) hG d1 d2 d3
    have hrv:S.aC p x z=S.am p x z:=by rw[S.aC,if_pos c]
    simp only[sz,simprocAttr,h8,h11,h12,h13,h14,i0,i2,hg4,l0,l2,c,hrv,kRR]
    simp[St,LR3,LRe,sx,h5,h8,h11,h21,h22,h70,h71]
   ·have hrv:S.aC p x z=0:=by rw[S.aC,if_neg c]
    simp only[sz,simprocAttr,h8,h11,h12,h13,h14,c,hrv]
    simp[St,LR3,LRe,sx,h5,h8,h11,h21,h22,h70,h71]
  clear h5 h8 h11 h12 h13 h14 h21 h22 h70 h71
  rintro t df g5 ⟨rfl,rfl,⟨h71,h11,h22,h70,h5,h8,h21,-⟩⟩
  refine gD (P:=fun t' df g'=>df=[]/\g'=g5/\St t' ((15,.bool (S.aB p x y z))::(16,.int .i64 (S.ae p [x,y,z]))::LR3 j r q gv A T9)) ?_ ?_
  ·simp only[sz,simprocAttr,h8,h11,i0,i1,i2,hg4,l0,l1,l2,kA]
   simp[St,LR3,LRe,sx,h5,h8,h11,h21,h22,h70,h71]
  clear h5 h8 h11 h21 h22 h70 h71
  rintro t df g6 ⟨rfl,hg6,⟨h15,h16,h71,h11,h22,h70,h5,h8,h21,-⟩⟩
  rw[hg6];clear hg6
  refine gD (P:=fun t' df g'=>df=[]/\Fr g5 g'/\St t' ((14,.int .i64 (S.ae p [x,y,z]))::(15,.bool (S.aB p x y z))::(16,.int .i64 (S.ae p [x,y,z]))::LR3 j r q gv A T9)) ?_ ?_
  ·simp only[sz,simprocAttr,h8,h11,i0,i1,i2,hg4,l0,l1,l2,p_]
   rw[kF3 _ _ (by simp[H.get_put]) (by simp)]
   simp only[sz,simprocAttr]
   refine ⟨Fr.new _ _,by simp[St,LR3,LRe,sx,h5,h8,h11,h15,h16,h21,h22,h70,h71]⟩
  clear h5 h8 h11 h15 h16 h21 h22 h70 h71
  rintro t df g7 ⟨rfl,hF7,⟨h14,h15,h16,h71,h11,h22,h70,h5,h8,h21,-⟩⟩
  have hg7:g7.h.get r=.cells 3 [[.int .u64 (x:Int),.int .u64 (y:Int),.int .u64 (z:Int)]] 0 false false:=by rw[hF7.2 r (by omega),hg4]
  have hFf:Fr g g7:=Fr.trans (Fr.trans hF2 hF4) hF7
  have eqb:∀b:Bool,z_ true .bool (.bool b) (.bool b)=.val (.bool false):=fun b=>by cases b<;>rfl
  by_cases c:S.ae p [x,y,z]=0
  ·obtain ⟨hG,hD⟩:=pM.1 c
   obtain ⟨d1,d2,-,d3,d4⟩:=Bb.1 hD
   have d5:x &&& z=0:=pN (zS d4).1
   have kRA:=fun g:G=>xA (d:=d) (g:=g) hd (hv' g.h) hG d1 d2 d3 d5
   have hav:S.aB p x y z=decide (S.am p x z &&& y=0):=by rw[S.aB,c];simp
   simp only[sz,simprocAttr,h8,h11,h14,h15,h16,i0,i1,i2,hg7,l0,l1,l2,c,hav,kRA,eqb]
   exact ⟨⟨hFf,by simp[St,LRe,sx,h5,h8,h21,h22,h70]⟩,h71⟩
  ·have hav:S.aB p x y z=false:=by rw[S.aB];simp[c]
   simp only[sz,simprocAttr,h14,h15,h16,c,hav,eqb]
   exact ⟨⟨hFf,by simp[St,LRe,sx,h5,h8,h21,h22,h70]⟩,h71⟩
 ·rintro t df g' ⟨rfl,hF,ht⟩
  exact fin t g' ht hF
theorem yU (x:Int):∃m:Nat,IntKind.wrap .u64 x=(m:Int)/\m<18446744073709551616:=by
 refine ⟨(x % 18446744073709551616).toNat,?_,by omega⟩
 show x % 18446744073709551616=_
 omega
theorem jz {m n:Nat}(h:m<18446744073709551616)(h':n<18446744073709551616):m ^^^ (m &&& n)<18446744073709551616:=Nat.xor_lt_two_pow (n:=64) h (ki h)
theorem zG {d:Nat}{Q:QT}{t:T}{g:G}{A:AV}{s0 s1 s2:Nat}(hd:0<d)(h0:s0<18446744073709551616)(h1:s1<18446744073709551616)(h2:s2<18446744073709551616)
  (hA:∀j:Nat,j<2->∃(gv:AV) (p:List Nat),SlR NoP 0 .nil p gv/\ixV false 2 1 A (.int .i64 (j:Int))=.val gv)
  (hg:g.h.get 1=.cells 3 [[.int .u64 (s0:Int),.int .u64 (s1:Int),.int .u64 (s2:Int)]] 0 false false) (hn:1<g.nx) (h5:tat t 5=.hptr 1 0 0 0) (h21:tat t 21=A) (h22:tat t 22=.int .i64 0)
  (fin:∀t g',Q (.exit 0) t [] g'):wpL (wp C0 d none bw) Q t [] g:=by
 simp only[bw,cF]
 have i0:∀id,q_ 3 1 (.hptr id 0 0 0) (.int .i64 0)=.val (.hptr id 0 0 0):=fun id=>rfl
 have i1:∀id,q_ 3 1 (.hptr id 0 0 0) (.int .i64 1)=.val (.hptr id 0 0 1):=fun id=>rfl
 have i2:∀id,q_ 3 1 (.hptr id 0 0 0) (.int .i64 2)=.val (.hptr id 0 0 2):=fun id=>rfl
 have l0:aA (.cells 3 [[.int .u64 (s0:Int),.int .u64 (s1:Int),.int .u64 (s2:Int)]] 0 false false) 0 0 false 1 0=.val (.int .u64 (s0:Int)):=rfl
 have l1:aA (.cells 3 [[.int .u64 (s0:Int),.int .u64 (s1:Int),.int .u64 (s2:Int)]] 0 false false) 0 0 false 1 1=.val (.int .u64 (s1:Int)):=rfl
 have l2:aA (.cells 3 [[.int .u64 (s0:Int),.int .u64 (s1:Int),.int .u64 (s2:Int)]] 0 false false) 0 0 false 1 2=.val (.int .u64 (s2:Int)):=rfl
 have lL:aA (.cells 3 [[.int .u64 (s0:Int),.int .u64 (s1:Int),.int .u64 (s2:Int)]] 0 false false) 0 0 true 3 0=.val (.agg [.int .u64 (s0:Int),.int .u64 (s1:Int),.int .u64 (s2:Int)]):=rfl
 refine mK (m:=2) rfl (by omega) (fun j t df g'=>df=[]/\Fr g g'/\St t [(5,.hptr 1 0 0 0),(21,A)]) ⟨rfl,Fr.refl _,by simp[St,h5,h21]⟩ h22 (by decide)
  (by rintro j t df g v s (rfl | rfl | rfl) ⟨a1,a2,⟨b1,b2,-⟩⟩<;>exact ⟨a1,a2,by simp[St,sx,b1,b2]⟩) ?_ ?_
 ·rintro j t df g1 hj ⟨rfl,hF,h5,h21,-⟩ h22
  obtain ⟨gv,p,hv,hi⟩:=hA j hj
  have hv':∀h,SlR NoP 0 h p gv:=fun h=>hv.tree (Nat.le_refl 0)
  have hg1:g1.h.get 1=.cells 3 [[.int .u64 (s0:Int),.int .u64 (s1:Int),.int .u64 (s2:Int)]] 0 false false:=by rw[hF.2 1 hn,hg]
  have lv:=hv.len
  obtain ⟨m,hm,hml⟩:=yU ((S.aw p.length:Int) - 1)
  have hsl:bK .shl (.int .u64 1) (.int .i64 (p.length:Int))=.val (.int .u64 (S.aw p.length:Int)):=bZ .i64 p.length
  have kC:=fun g=>w4 (d:=d) (g:=g) hd hv
  have kF:=fun g:G=>ju (d:=d) (g:=g) (l:=[]) (w:=.nils) (P2:=NoP) (k2:=0) hd (hv' g.h) ⟨by show 0<9223372036854775808;decide,rfl⟩
  refine qD (P:=fun t' df g'=>df=[]/\g'=g1/\St t' [(5,.hptr 1 0 0 0),(21,A),(22,.int .i64 (j:Int)),(8,gv)]) ?_ ?_
  ·simp only[sz,simprocAttr,h21,h22,hi]
   simp[St,sx,h5,h21,h22]
  clear h5 h21 h22
  rintro t df g2 ⟨rfl,hg2,h5,h21,h22,h8,-⟩
  rw[hg2];clear hg2
  refine gD (P:=fun t' df g'=>df=[]/\g'=g1/\St t' [(9,.int .u64 (m:Int)),(5,.hptr 1 0 0 0),(21,A),(22,.int .i64 (j:Int)),(8,gv)]) ?_ ?_
  ·simp only[sz,simprocAttr,h8,lv,hsl,hm]
   simp[St,sx,h5,h21,h22,h8]
  clear h5 h21 h22 h8
  rintro t df g2 ⟨rfl,hg2,h9,h5,h21,h22,h8,-⟩
  rw[hg2];clear hg2
  refine qD (P:=fun t' df g'=>df=[]/\g'=g1/\St t' [(9,.int .u64 (m:Int)),(5,.hptr 1 0 0 0),(21,A),(22,.int .i64 (j:Int)),(8,gv)]) ?_ ?_
  ·simp only[sz,simprocAttr,h8,kC,kF]
   simp[St,sx,h5,h9,h21,h22,h8]
  clear h5 h9 h21 h22 h8
  rintro t df g2 ⟨rfl,hg2,h9,h5,h21,h22,h8,-⟩
  rw[hg2];clear hg2
  have a0:=bT s0 m h0 hml
  have a1:=bT s1 m h1 hml
  have a2:=bT s2 m h2 hml
  have n1:=iy (s1 &&& m) s0 (ki h1) h0
  have n2:=iy (s2 &&& m) s0 (ki h2) h0
  have n3:=iy (s2 &&& m ^^^ s2 &&& m &&& s0) s1 (jz (ki h2) h0) h1
  obtain ⟨u0,hu0⟩:∃u,u=s0 &&& m:=⟨_,rfl⟩
  obtain ⟨u1,hu1⟩:∃u,u=s1 &&& m:=⟨_,rfl⟩
  obtain ⟨u2,hu2⟩:∃u,u=s2 &&& m:=⟨_,rfl⟩
  have lu0:u0<18446744073709551616:=by rw[hu0];exact ki h0
  have lu1:u1<18446744073709551616:=by rw[hu1];exact ki h1
  have lu2:u2<18446744073709551616:=by rw[hu2];exact ki h2
  rw[<-hu0] at a0
  rw[<-hu1] at a1 n1
  rw[<-hu2] at a2 n2 n3
  clear hu0 hu1 hu2
  obtain ⟨v1,hv1⟩:∃u,u=u1 ^^^ u1 &&& s0:=⟨_,rfl⟩
  obtain ⟨v2,hv2⟩:∃u,u=u2 ^^^ u2 &&& s0:=⟨_,rfl⟩
  have lv1:v1<18446744073709551616:=by rw[hv1];exact jz lu1 h0
  have lv2:v2<18446744073709551616:=by rw[hv2];exact jz lu2 h0
  rw[<-hv1] at n1
  rw[<-hv2] at n2 n3
  clear hv1 hv2
  obtain ⟨v3,hv3⟩:∃u,u=v2 ^^^ v2 &&& s1:=⟨_,rfl⟩
  have lv3:v3<18446744073709551616:=by rw[hv3];exact jz lv2 h1
  rw[<-hv3] at n3
  clear hv3
  refine gD (P:=fun t' df g'=>df=[]/\g'=g1/\St t' ((71,.int .i64 0)::(22,.int .i64 (j:Int))::(70,.agg [.int .u64 (s0:Int),.int .u64 (s1:Int),.int .u64 (s2:Int),.int .u64 (u0:Int),.int .u64 (u1:Int),.int .u64 (u2:Int),.int .u64 (u0:Int),.int .u64 (v1:Int),.int .u64 (v3:Int)])::LRe gv j A)) ?_ ?_
  ·simp only[sz,simprocAttr,h5,h9,hg1,i0,i1,i2,l0,l1,l2,lL,a0,a1,a2,n1,n2,n3]
   simp[St,LRe,sx,h5,h9,h21,h22,h8]
  clear h5 h9 h21 h22 h8
  rintro t df g2 ⟨rfl,hg2,h71,ht⟩
  rw[hg2];clear hg2
  simp only[sz,simprocAttr]
  refine yP (p:=p) hd hv (fun k hk=>?_) ht h71 ?_
  ·match k,hk with
   | 0,_=>exact ⟨s0,s1,s2,h0,h1,h2,rfl⟩
   | 1,_=>exact ⟨u0,u1,u2,lu0,lu1,lu2,rfl⟩
   | 2,_=>exact ⟨u0,v1,v3,lu0,lv1,lv3,rfl⟩
  rintro t g2 ⟨h22,h70,h5,h8,h21,-⟩ hF2
  simp only[sz,simprocAttr]
  exact ⟨⟨hF.trans hF2,h5,h21,trivial⟩,h22⟩
 ·rintro t df g' ⟨rfl,hF,-⟩
  exact fin t g'
theorem sB (g:G):aE C0 1 N.aM [] g=.val (.bool true):=by kernel_rfl
theorem jx {x:rm}{raw:List Nat}{w:AV}{xs:List AV}{s0 s1 s2:Nat}(hw:SlR NoP 0 .nil raw w)(hr:Raw w)(hx:Rp.rp NoP 0 .nil x xs)(hs:s0<18446744073709551616/\s1<18446744073709551616/\s2<18446744073709551616) :
  ∃g',(I C0).call 1 N.aL [w,.agg xs,.agg [.int .u64 (s0:Int),.int .u64 (s1:Int),.int .u64 (s2:Int)]] G.empty=.ok (.bool true) g':=by
 obtain ⟨h0,h1,h2⟩:=hs
 have hgr:=fun g=>ue (d:=1) (g:=g) (by decide) hx hw hr
 obtain ⟨_,_,rfl,ha',hb'⟩:=dz.1 hx
 obtain ⟨a,rfl,-⟩:=aS.1 ha'
 obtain ⟨b,rfl,-⟩:=aS.1 hb'
 rw[List.cons_append,List.nil_append] at hgr ⊢
 have key:=jJ (C:=C0) (d:=1) (f:=N.aL) («as»:=[w,.agg [a,b],.agg [.int .u64 (s0:Int),.int .u64 (s1:Int),.int .u64 (s2:Int)]]) (g:=G.empty) (K:=fun v g'=>v=.bool true) gL (by simp[bY]) ?_
 ·cases hc':(I C0).call 1 N.aL [w,.agg [a,b],.agg [.int .u64 (s0:Int),.int .u64 (s1:Int),.int .u64 (s2:Int)]] G.empty with
  | fail=>rw[hc'] at key;exact key.elim
  | ok v g'=>rw[hc'] at key;exact ⟨g',by rw[show v=.bool true from key]⟩
 have ld:aA (.cells 2 [[a,b]] 0 false false) 0 0 true 2 0=.val (.agg [a,b]):=rfl
 simp only[sz,simprocAttr,bY,nz,cZ,sB,ld]
 refine nM (hgr _) fun z hz=>?_
 obtain ⟨y,-,cz,rfl,hz⟩:=hz
 obtain ⟨_,_,rfl,ha',hb'⟩:=dz.1 hz
 obtain ⟨g1,rfl,q1⟩:=aS.1 ha'
 obtain ⟨g2,rfl,q2⟩:=aS.1 hb'
 simp only[sz,simprocAttr]
 refine zG (A:=.agg [g1,g2]) (s0:=s0) (s1:=s1) (s2:=s2) (by decide) h0 h1 h2 (fun j hj=>?_) (by simp[sx,H.get_put]) (by simp) (by simp[sx]) (by simp[sx]) (by simp[sx]) ?_
 ·match j,hj with
  | 0,_=>exact ⟨g1,y.1,q1,rfl⟩
  | 1,_=>exact ⟨g2,y.2,q2,rfl⟩
 intro t g'
 simp only[sz,simprocAttr,cJ]
end
end Hx
end
section
namespace Hx
open Go Go.RowKit Go.ChangeShapes Go.WideShapes
def kP (P:Program):List Field->Nat->Option Nat
 | [],k=>some k
 | f::fs,k=>if f.offset=k then kP P fs (k+P.cellsOf f.type) else none
def jh (P:Program):Nat->TypeId->Bool
 | 0,_=>false
 | n+1,t=>match P.underlying t with
  | some .bool=>true
  | some (.int _)=>true
  | some (.slice e)=>decide (0<P.cellsOf e)&&jh P n e
  | some (.struct fs)=>(kP P fs.toList 0 == some (P.cellsOf t))&&fs.toList.all (fun f=>jh P n f.type)
  | some (.array m e)=>decide (m*P.cellsOf e=P.cellsOf t)&&jh P n e
  | _=>false
def Sh (P:Program):Nat->TypeId->List AV->Prop
 | 0,_,_=>False
 | n+1,t,xs=>match P.underlying t with
  | some .bool=>∃b,xs=[.bool b]
  | some (.int k)=>∃z,xs=[.int k z]/\(Lit.int k z).wf=true
  | some (.slice e)=>xs=[.nils]\/∃rows,xs=[.tsl 0 (P.cellsOf e) rows]/\rows.length<9223372036854775808/\∀row∈rows,Sh P n e row
  | some (.struct fs)=>∃xss,xs=xss.flatten/\All2 (fun (f:Field) ys=>Sh P n f.type ys) fs.toList xss
  | some (.array m e)=>∃xss:List (List AV),xs=xss.flatten/\xss.length=m/\∀ys∈xss,Sh P n e ys
  | _=>False
def rD (P:Program)(w:World)(n:Nat)(t:TypeId)(xs:List AV)(cs:List Value):Prop :=
 RVs0 w xs cs/\(∀y∈xs,y.one=true/\Closed y)/\Sh P n t xs
theorem RVs0.append {w:World}{xs ys:List AV}{cs ds:List Value}(h:RVs0 w xs cs)(h':RVs0 w ys ds):RVs0 w (xs++ys) (cs++ds):=by
 refine ⟨by rw[List.length_append,List.length_append,h.1,h'.1],fun i x v hx hv=>?_⟩
 rcases Nat.lt_or_ge i xs.length with hi | hi
 ·rw[List.getElem?_append_left hi] at hx
  rw[List.getElem?_append_left (by rw[<-h.1];exact hi)] at hv
  exact h.2 i x v hx hv
 ·rw[List.getElem?_append_right hi] at hx
  rw[List.getElem?_append_right (by rw[<-h.1];exact hi),<-h.1] at hv
  exact h'.2 _ x v hx hv
theorem uX (b o n:Nat):(⟨b,o,none⟩:Addr).add n=adr b (o+n):=by
 unfold Addr.add
 split
 ·rename_i h;subst h;rfl
 ·rfl
variable {H:Type}{enc:TypeId×Value->H}{P:Program}{w:World}
theorem pA:∀{fl:List Field} {k K:Nat},kP P fl k=some K->k<=K
 | [],k,K,h=>by injection h with h;omega
 | f::fl,k,K,h=>by
  unfold kP at h
  split at h
  ·have:=pA h;omega
  ·cases h
theorem x7 {n:Nat}{cs:List Value}:∀{fl:List Field} {k K:Nat},kP P fl k=some K ->
  (∀f∈fl,∃xs,rD P w n f.type xs ((cs.drop f.offset).take (P.cellsOf f.type))) ->
  ∃xss,All2 (fun (f:Field) ys=>Sh P n f.type ys) fl xss/\RVs0 w xss.flatten ((cs.drop k).take (K - k))/\∀y∈xss.flatten,y.one=true/\Closed y
 | [],k,K,h,_=>by
  injection h with h;subst h
  exact ⟨[],trivial,by rw[Nat.sub_self,List.take_zero];exact ⟨rfl,fun i x v hx=>by simp at hx⟩,fun y hy=>by simp at hy⟩
 | f::fl,k,K,h,hg=>by
  unfold kP at h
  split at h
  ·rename_i ho
   subst ho
   obtain ⟨xs,h1,h2,h3⟩:=hg f (by simp)
   obtain ⟨xss,a1,a2,a3⟩:=x7 h fun f' hf'=>hg f' (by simp[hf'])
   have hle:=pA h
   refine ⟨xs::xss,⟨h3,a1⟩,?_,fun y hy=>?_⟩
   ·have e:(cs.drop f.offset).take (K - f.offset)=(cs.drop f.offset).take (P.cellsOf f.type)++(cs.drop (f.offset+P.cellsOf f.type)).take (K - (f.offset+P.cellsOf f.type)):=by
     rw[show K - f.offset=P.cellsOf f.type+(K - (f.offset+P.cellsOf f.type)) by omega,List.take_add,List.drop_drop]
    rw[e,List.flatten_cons]
    exact h1.append a2
   ·rw[List.flatten_cons,List.mem_append] at hy
    rcases hy with hy | hy
    ·exact h2 y hy
    ·exact a3 y hy
  ·cases h
theorem wg {n:Nat}{e:TypeId}{cs:List Value}:∀{m k:Nat},
  (∀i,i<m->∃xs,rD P w n e xs ((cs.drop ((k+i)*P.cellsOf e)).take (P.cellsOf e))) ->
  ∃xss:List (List AV),xss.length=m/\(∀ys∈xss,Sh P n e ys)/\RVs0 w xss.flatten ((cs.drop (k*P.cellsOf e)).take (m*P.cellsOf e))/\∀y∈xss.flatten,y.one=true/\Closed y
 | 0,k,_=>⟨[],rfl,fun y hy=>by simp at hy,by rw[Nat.zero_mul,List.take_zero];exact ⟨rfl,fun i x v hx=>by simp at hx⟩,fun y hy=>by simp at hy⟩
 | m+1,k,hg=>by
  obtain ⟨xs,h1,h2,h3⟩:=hg 0 (by omega)
  rw[Nat.add_zero] at h1
  obtain ⟨xss,a0,a1,a2,a3⟩:=wg (m:=m) (k:=k+1) fun i hi=>by
   have:=hg (i+1) (by omega)
   rwa [show k+(i+1)=k+1+i by omega] at this
  refine ⟨xs::xss,by simp[a0],fun ys hy=>?_,?_,fun y hy=>?_⟩
  ·rcases List.mem_cons.1 hy with rfl | hy
   ·exact h3
   ·exact a1 ys hy
  ·have e:(cs.drop (k*P.cellsOf e)).take ((m+1)*P.cellsOf e)=(cs.drop (k*P.cellsOf e)).take (P.cellsOf e)++(cs.drop ((k+1)*P.cellsOf e)).take (m*P.cellsOf e):=by
    rw[show (m+1)*P.cellsOf e=P.cellsOf e+m*P.cellsOf e by rw[Nat.add_mul];omega,List.take_add,List.drop_drop,Nat.add_mul,Nat.one_mul]
   rw[e,List.flatten_cons]
   exact h1.append a2
  ·rw[List.flatten_cons,List.mem_append] at hy
   rcases hy with hy | hy
   ·exact h2 y hy
   ·exact a3 y hy
theorem np:∀(n:Nat) (t:TypeId),jh P n t=true->∀(fuel:Nat) (cs:List Value) (x:DataW H×List MemPlace),DataW.trod enc P w 0 (fun _=>true) true fuel t cs=some x->∃xs,rD P w n t xs cs:=by
 intro n
 induction n with
 | zero=>intro t h;simp[jh] at h
 | succ n ih =>
  intro t h fuel cs x hx
  unfold jh at h
  split at h
  ·rename_i hu
   obtain ⟨b,rfl,-⟩:=DataW.trod_bool hu hx
   refine ⟨[.bool b],⟨rfl,fun i x v h1 h2=>?_⟩,fun y hy=>?_,?_⟩
   ·cases i with
    | zero=>simp at h1 h2;subst h1;subst h2;exact .bool _ _
    | succ i=>simp at h1
   ·simp at hy;subst hy;exact ⟨rfl,.bool _⟩
   ·unfold Sh;rw[hu];exact ⟨b,rfl⟩
  ·rename_i k hu
   obtain ⟨z,rfl,-,hwf⟩:=DataW.trod_int hu hx
   refine ⟨[.int k z],⟨rfl,fun i x v h1 h2=>?_⟩,fun y hy=>?_,?_⟩
   ·cases i with
    | zero=>simp at h1 h2;subst h1;subst h2;exact .int _ _ _
    | succ i=>simp at h1
   ·simp at hy;subst hy;exact ⟨rfl,.int _ _⟩
   ·unfold Sh;rw[hu];exact ⟨z,rfl,hwf⟩
  ·rename_i e hu
   rw[Bool.and_eq_true,decide_eq_true_eq] at h
   obtain ⟨hpos,hp⟩:=h
   rcases DataW.trod_slice hu hx with ⟨rfl,-⟩ | ⟨a,len,cap,elems,rest,m,-,rfl,-,-,hlc,hcm,hlen,hel,-,-⟩
   ·refine ⟨[.nils],⟨rfl,fun i x v h1 h2=>?_⟩,fun y hy=>?_,?_⟩
    ·cases i with
     | zero=>simp at h1 h2;subst h1;subst h2;exact .nils _
     | succ i=>simp at h1
    ·simp at hy;subst hy;exact ⟨rfl,.nils⟩
    ·unfold Sh;rw[hu];exact .inl rfl
   ·have each:∀i,i<len->∃xs vs,w.cells? 0 (a.add (i*P.cellsOf e)) (P.cellsOf e)=some vs/\rD P w n e xs vs:=by
     intro i hi
     have:=hel i hi
     rw[List.getElem?_eq_getElem (show i<elems.length by omega),Option.bind_eq_some_iff] at this
     obtain ⟨vs,h1,h2⟩:=this
     obtain ⟨xs,hg⟩:=ih e hp _ _ _ h2
     exact ⟨xs,vs,h1,hg⟩
    let rowf:Nat->List AV:=fun i=>if hi:i<len then Classical.choose (each i hi) else []
    let valf:Nat->List Value:=fun i=>if hi:i<len then Classical.choose (Classical.choose_spec (each i hi)) else []
    have hrow:∀i,i<len->w.cells? 0 (a.add (i*P.cellsOf e)) (P.cellsOf e)=some (valf i)/\rD P w n e (rowf i) (valf i):=by
     intro i hi
     have:=Classical.choose_spec (Classical.choose_spec (each i hi))
     simpa only[rowf,valf,dif_pos hi] using this
    have hget:∀(i:Nat) (row:List AV),((List.range len).map rowf)[i]?=some row->i<len/\row=rowf i:=by
     intro i row h1
     rw[List.getElem?_map] at h1
     rcases Nat.lt_or_ge i len with hi | hi
     ·rw[List.getElem?_range hi] at h1
      injection h1 with h1
      exact ⟨hi,h1.symm⟩
     ·rw[List.getElem?_eq_none (by simpa using hi)] at h1;cases h1
    refine ⟨[.tsl 0 (P.cellsOf e) ((List.range len).map rowf)],⟨rfl,fun i x v h1 h2=>?_⟩,fun y hy=>?_,?_⟩
    ·cases i with
     | succ i=>simp at h1
     | zero =>
      simp at h1 h2;subst h1;subst h2
      rcases Nat.eq_zero_or_pos len with h0 | h0
      ·subst h0
       exact .tnil 0 0 _ a cap (Nat.le_refl _)
      ·obtain ⟨b,o,spot⟩:=a
       have hc0:=World.cells?_some (hrow 0 h0).1
       have hv0:(valf 0)[0]?=some (valf 0)[0]:=List.getElem?_eq_getElem (by rw[hc0.2.1];exact hpos)
       have h00:=hc0.2.2 0 hpos
       rw[hv0] at h00
       have hspot:spot=none:=by simpa [Addr.add] using World.cell?_spot h00
       subst hspot
       have cellat:∀i j row x,((List.range len).map rowf)[i]?=some row->row[j]?=some x->∃v,(valf i)[j]?=some v/\w.cell? (adr b (o+i*P.cellsOf e+j))=some v/\RV w gm0 av0 0 x v:=by
        intro i j row x hr hxj
        obtain ⟨hi,rfl⟩:=hget i row hr
        obtain ⟨q1,q2⟩:=hrow i hi
        have hj:j<(rowf i).length:=(List.getElem?_eq_some_iff.1 hxj).1
        have hj':j<(valf i).length:=by rw[<-q2.1.1];exact hj
        have hcs:=World.cells?_some q1
        have hcell:=hcs.2.2 j (by rw[<-hcs.2.1];exact hj')
        rw[List.getElem?_eq_getElem hj'] at hcell
        refine ⟨_,List.getElem?_eq_getElem hj',?_,q2.1.2 j x _ hxj (List.getElem?_eq_getElem hj')⟩
        rw[uX,show adr b (o+i*P.cellsOf e)=(⟨b,o+i*P.cellsOf e,none⟩:Addr) from rfl,uX] at hcell
        exact hcell
       have hb:b<w.heap.size:=by
        have:=nE h00
        simpa [Addr.add] using this
       have hrl:((List.range len).map rowf).length=len:=by simp
       have key:=RV.tsl (w:=w) (γ:=gm0) (A:=av0) 0 0 (P.cellsOf e) ((List.range len).map rowf) b o cap (fun i j=>(valf i)[j]?.getD undef) (Nat.le_refl _) (by rw[hrl];exact hlc) hb (BT b) (fun h=>h)
        (fun i row hr=>by
         obtain ⟨hi,rfl⟩:=hget i row hr
         obtain ⟨q1,q2⟩:=hrow i hi
         rw[q2.1.1,(World.cells?_some q1).2.1])
        (fun i j row x hr hxj=>by
         obtain ⟨hi,rfl⟩:=hget i row hr
         exact ((hrow i hi).2.2.1 x (List.mem_of_getElem? hxj)).1)
        (fun i j row x hr hxj=>by
         obtain ⟨v,v1,v2,v3⟩:=cellat i j row x hr hxj
         rw[v2,v1];rfl)
        (fun i j row x hr hxj=>by
         obtain ⟨v,v1,v2,v3⟩:=cellat i j row x hr hxj
         rw[v1];exact v3)
        (fun row hr x hx=>by
         obtain ⟨i,hi⟩:=List.getElem?_of_mem hr
         obtain ⟨hi2,rfl⟩:=hget i row hi
         exact ((hrow i hi2).2.2.1 x hx).2)
       rw[hrl] at key
       exact key
    ·simp only[List.mem_singleton] at hy;subst hy
     refine ⟨rfl,.tsl _ _ _ fun row hr x hx=>?_⟩
     obtain ⟨i,hi⟩:=List.getElem?_of_mem hr
     obtain ⟨hi2,rfl⟩:=hget i row hi
     exact ((hrow i hi2).2.2.1 x hx).2
    ·unfold Sh;rw[hu]
     refine .inr ⟨_,rfl,?_,fun row hr=>?_⟩
     ·rw[List.length_map,List.length_range]
      have:maxLen<9223372036854775808:=by decide
      omega
     ·obtain ⟨i,hi⟩:=List.getElem?_of_mem hr
      obtain ⟨hi2,rfl⟩:=hget i row hi
      exact (hrow i hi2).2.2.2
  ·rename_i fs hu
   rw[Bool.and_eq_true] at h
   obtain ⟨hc,hp⟩:=h
   have hc:kP P fs.toList 0=some (P.cellsOf t):=eq_of_beq hc
   obtain ⟨ys,m,-,-,hl,hyl,hel⟩:=DataW.trod_struct hu hx
   obtain ⟨xss,a1,a2,a3⟩:=x7 (w:=w) (n:=n) (cs:=cs) hc fun f hf=>by
    obtain ⟨i,hi,e⟩:=List.mem_iff_getElem.1 hf
    have hfi:fs[i]?=some f:=by rw[<-Array.getElem?_toList,List.getElem?_eq_getElem hi,e]
    have:=hel i f hfi
    rw[List.getElem?_eq_getElem (show i<ys.length by rw[hyl];simpa using hi)] at this
    exact ih f.type (List.all_eq_true.1 hp f hf) _ _ _ this
   rw[List.drop_zero,Nat.sub_zero,<-hl,List.take_length] at a2
   refine ⟨xss.flatten,a2,a3,?_⟩
   unfold Sh;rw[hu];exact ⟨xss,rfl,a1⟩
  ·rename_i m e hu
   rw[Bool.and_eq_true,decide_eq_true_eq] at h
   obtain ⟨hc,hp⟩:=h
   obtain ⟨ys,q,-,-,hl,hyl,hel⟩:=DataW.trod_array hu hx
   obtain ⟨xss,a0,a1,a2,a3⟩:=wg (w:=w) (n:=n) (e:=e) (cs:=cs) (m:=m) (k:=0) fun i hi=>by
    have:=hel i hi
    rw[List.getElem?_eq_getElem (show i<ys.length by omega)] at this
    rw[Nat.zero_add]
    exact ih e hp _ _ _ this
   rw[Nat.zero_mul,List.drop_zero,hc,<-hl,List.take_length] at a2
   refine ⟨xss.flatten,a2,a3,?_⟩
   unfold Sh;rw[hu];exact ⟨xss,rfl,a0,a1⟩
  ·cases h
theorem Bm {n:Nat}{t:TypeId}{xs:List AV}(hu:P.underlying t=some (.int .u8))(h:Sh P n t xs):∃x:UInt8,Rp.rp NoP 0 .nil x xs:=by
 cases n with
 | zero=>exact h.elim
 | succ n =>
  unfold Sh at h;rw[hu] at h
  obtain ⟨z,rfl,hw⟩:=h
  simp only[Lit.wf,IntKind.min,IntKind.max,IntKind.signed,IntKind.bits,Bool.and_eq_true] at hw
  refine ⟨UInt8.ofNat z.toNat,yC.2 ?_⟩
  have h1:0<=z:=by simpa using hw.1
  have h2:z<=255:=by simpa using hw.2
  have h3:(UInt8.ofNat z.toNat).toNat=z.toNat:=UInt8.toNat_ofNat_of_lt' (by show z.toNat<256;omega)
  rw[h3,Int.toNat_of_nonneg h1]
theorem qC {α:Type} [Rp α]{n:Nat}{t e:TypeId}{xs:List AV}(hu:P.underlying t=some (.slice e))(hsz:P.cellsOf e=Rp.sz α)(hel:∀ys,Sh P n e ys->∃y:α,Rp.rp NoP 0 .nil y ys)(h:Sh P (n+1) t xs) :
  ∃l:List α,Rp.rp NoP 0 .nil l xs:=by
 unfold Sh at h;rw[hu] at h
 rcases h with rfl | ⟨rows,rfl,hl,hr⟩
 ·exact ⟨[],.nils,rfl,by simp,rfl⟩
 ·have:∀rows:List (List AV),(∀row∈rows,Sh P n e row)->∃l:List α,All2 (Rp.rp NoP 0 .nil) l rows:=by
   intro rows
   induction rows with
   | nil=>intro _;exact ⟨[],trivial⟩
   | cons r rows ih =>
    intro h
    obtain ⟨y,hy⟩:=hel r (h r (by simp))
    obtain ⟨l,hl⟩:=ih fun row hrow=>h row (by simp[hrow])
    exact ⟨y::l,hy,hl⟩
  obtain ⟨l,ha⟩:=this rows hr
  exact ⟨l,_,rfl,by rw[ha.len];exact hl,Nat.le_refl _,.inl hsz,ha⟩
theorem zF {n m:Nat}{t e:TypeId}{xs:List AV}(hu:P.underlying t=some (.array m e))(h:Sh P (n+1) t xs):∃xss:List (List AV),xs=xss.flatten/\xss.length=m/\∀ys∈xss,Sh P n e ys:=by
 unfold Sh at h;rw[hu] at h;exact h
theorem xd {n:Nat}{t:TypeId}{fs:Array Field}{xs:List AV}(hu:P.underlying t=some (.struct fs))(h:Sh P (n+1) t xs):∃xss,xs=xss.flatten/\All2 (fun (f:Field) ys=>Sh P n f.type ys) fs.toList xss:=by
 unfold Sh at h;rw[hu] at h;exact h
end Hx
end
