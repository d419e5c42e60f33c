/- A part of the proof: an interpreter over abstract values, shown right against the model, and what the functions of the chapter compute on it. -/
import Derived.Test.YtbejmpmoigmliaaGreatDoorHx9
set_option linter.unusedVariables false
set_option linter.unusedSimpArgs false
set_option linter.unnecessarySimpa false
section
namespace Hx
open Go
noncomputable section
theorem nl {α:Type} [Rp α]{k:Nat}{l:List α}{v:AV}(hl:SlR NoP k .nil l v)(h0:0<l.length):pi v=true:=by
 have h:=hl.2
 unfold SlV at h
 split at h
 ·rw[h] at h0;simp at h0
 ·rw[h] at h0;simp at h0
 ·rfl
 ·exact h.1.elim
 ·exact h.elim
def GrV (p:List Nat):VS:=ta (Agg (S.gr p)) (One (if S.ax p then (0:Int) else 70))
structure GrB (pa cv:AV) (q:Nat) (Y:List Nat) (g:G):Prop where
 h0:g.h.get 0=.cells 2 [[.nils,.nils]] 0 false false
 hq:g.h.get q=.cells 2 [[pa,cv]] 0 false false
 hs:Own g 1 cv 1 (Y.map cu)
 q1:1<=q
 qn:q<g.nx
 d1:vid cv≠some q
def LRg (pa:AV)(q:Nat):List (Nat×AV):=[(0,pa),(2,.hptr 0 0 0 0),(4,.hptr q 0 0 0)]
section
variable {d:Nat}{p:List Nat}{pa cv:AV}{q:Nat}
theorem Ae {Q:QT}{t:T}{g:G}{j x:Nat}(n8:p.length<=8)(hx:p[j]?=some x)(hxl:x<18446744073709551616)
  (h0:GrB pa cv q (S.aw p j 0) g) (ht:St t ((28,pa)::(29,.int .i64 (p.length:Int))::(30,.int .i64 (j:Int))::(5,.int .i64 (j:Int))::(6,.int .u64 (x:Int))::LRg pa q)) (h43:tat t 43=.int .i64 0) (h42:tat t 42=.int .i64 (p.length:Int))
  (fin:∀t g',St t ((28,pa)::(29,.int .i64 (p.length:Int))::(30,.int .i64 (j:Int))::(5,.int .i64 (j:Int))::(6,.int .u64 (x:Int))::LRg pa q)->GrB pa cv q (S.aw p j p.length) g'->Q (.exit 2) t [] g'):wpL (wp C0 d none dX) Q t [] g:=by
 have hjl:=(List.getElem?_eq_some_iff.1 hx).1
 simp only[dX]
 refine cM (m:=p.length) (by omega) (fun i t df g'=>df=[]/\St t ((28,pa)::(29,.int .i64 (p.length:Int))::(30,.int .i64 (j:Int))::(5,.int .i64 (j:Int))::(6,.int .u64 (x:Int))::LRg pa q)/\GrB pa cv q (S.aw p j i) g') ⟨rfl,ht,h0⟩ h43 h42 (by decide)
  (by rintro i t df g v s (rfl | rfl | rfl) ⟨a1,⟨b1,b2,b3,b4,b5,b6,b7,b8,-⟩,c1⟩<;>exact ⟨a1,by simp[St,LRg,sx,b1,b2,b3,b4,b5,b6,b7,b8],c1⟩) ?_ ?_
 ·rintro i t df g hi ⟨rfl,⟨h28,h29,h30,h5,h6,h0,h2,h4,-⟩,hB⟩ h43 h42
  obtain ⟨old,hold⟩:∃old,old=S.aa (fun v=>Eg p i v/\(v<j\/v=j/\i<i)) p.length:=⟨_,rfl⟩
  have hst:=Ah hi hjl n8 hx
  have hYg:(S.aw p j i)[i]?=some old:=by rw[hold];exact mW hi
  rw[<-hold] at hst
  have hol:old<18446744073709551616:=by
   have:=ir (fun v=>Eg p i v/\(v<j\/v=j/\i<i)) p.length
   have:=iU n8
   omega
  clear hold
  obtain ⟨ad,had⟩:∃ad,ad=(x / 2 ^ i &&& 1)*2 ^ j % 18446744073709551616:=⟨_,rfl⟩
  have hsl:=xJ .i64 (x / 2 ^ i &&& 1) j
  have hadl:ad<18446744073709551616:=by rw[had];exact Nat.mod_lt _ (by decide)
  rw[<-had] at hst hsl
  clear had
  have hYr:((S.aw p j i).map cu)[i]?=some (cu old):=by rw[List.getElem?_map,hYg];rfl
  have hYl:i<((S.aw p j i).map cu).length:=by simp[mP,hi]
  have hsr:=hB.hs.rows
  have hor:=fp old ad hol hadl
  simp only[sz,simprocAttr,sf,h4,h5,h6,h43,hB.hq,hsr,hYl,hYr,cu,aJ _ _ _ hxl,li hxl,hsl,hor]
  refine nK (v:=cv) (sz:=1) (n:=1) (i:=i) (off:=0) (x:=.int .u64 ((old ||| ad:Nat):Int)) (row':=cu (old ||| ad)) (hB.hs.fr (by simp;omega) fun i _=>by simp) hYr rfl rfl rfl fun g4 hu4 n4 f4=>?_
  rw[show (((S.aw p j i).map cu).set i (cu (old ||| ad)))=(S.aw p j (i+1)).map cu from by rw[<-List.map_set,hst]] at hu4
  have f4':∀i,vid cv≠some i->g4.h.get i=g.h.get i:=fun i hi=>by rw[f4 i hi];simp
  have n4':g.nx<=g4.nx:=by rw[n4];simp;omega
  have q1:=hB.q1
  have qn:=hB.qn
  simp only[sx,sy,↓reduceIte,Nat.reduceEqDiff]
  refine ⟨?_,⟨by simp[St,LRg,sx,h0,h2,h4,h5,h6,h28,h29,h30],⟨?_,?_,?_,q1,?_,hB.d1⟩⟩,h43,h42⟩
  ·simp only[List.reverse_cons,List.reverse_nil,List.nil_append,List.cons_append]
   exact md [false,false,false,false,false,false,false,false,false,false,false,false,false,true] [] (by simp[All2,au,aS]) (by decide) (by simp)
  ·simp only[bumpG_h]
   rw[f4' 0 fun e=>by have:=(hB.hs.lt e).1;omega,hB.h0]
  ·simp only[bumpG_h]
   rw[f4' q hB.d1,hB.hq]
  ·exact hu4.fr (by simp) fun i _=>by simp
  ·simp;omega
 ·rintro t df g ⟨rfl,ht,h⟩
  exact fin t g ht h
theorem sG {h:H}(hn:¬GOk p):∃P,GrV p P 0 h (.tup [.agg [.nils,.nils],.int .i64 70]):=by
 have hf:=pV hn
 refine ⟨fun _=>True,_,_,rfl,⟨_,rfl,?_⟩,?_⟩
 ·rw[S.gr,hf]
  exact eP.2 ⟨_,_,rfl,aK.2 ⟨.nils,rfl,by show 0<9223372036854775808;decide,rfl⟩,aK.2 ⟨.nils,rfl,by show 0<9223372036854775808;decide,rfl⟩⟩
 ·rw[hf];exact c_.2 rfl
theorem Bj {Q:QT}{t:T}{g:G}(n8:p.length<=8)(hlt:∀x∈p,x<18446744073709551616)(vl:∀g,ej .slice pa g=.val (.int .i64 (p.length:Int)))(rp:∀h,aw h 1 pa=some (p.map cu))(yp:pi pa=true)
  (h0:GrB pa cv q (S.aw p 0 0) g) (ht:St t (LRg pa q)) (h28:tat t 28=pa) (h30:tat t 30=.int .i64 0) (h29:tat t 29=.int .i64 (p.length:Int))
  (bad:∀t g,¬GOk p->g.h.get 0=.cells 2 [[.nils,.nils]] 0 false false->tat t 2=.hptr 0 0 0 0->tat t 3=.int .i64 70->Q .ret t [] g)
  (fin:∀t g,St t (LRg pa q)->GrB pa cv q (S.aw p p.length 0) g->(∀x∈p,x<2 ^ p.length)->Q (.exit 0) t [] g):wpL (wp C0 d none d_) Q t [] g:=by
 simp only[d_,gY]
 refine cM (m:=p.length) (by omega) (fun j t df g'=>df=[]/\St t ((28,pa)::LRg pa q)/\GrB pa cv q (S.aw p j 0) g'/\∀x∈p.take j,x<2 ^ p.length) ⟨rfl,⟨h28,ht⟩,h0,by simp⟩ h30 h29 (by decide)
  (by rintro j t df g v s (rfl | rfl | rfl) ⟨a1,⟨b1,b2,b3,b4,-⟩,c1⟩<;>exact ⟨a1,by simp[St,LRg,sx,b1,b2,b3,b4],c1⟩) ?_ ?_
 ·rintro j t df g hj ⟨rfl,⟨h28,h0,h2,h4,-⟩,hB,hok⟩ h30 h29
  obtain ⟨x,hx,htk,hxm⟩:=br hj
  have u1:j<(p.map cu).length:=by simpa using hj
  have u2:(p.map cu)[j]?=some (cu x):=by rw[List.getElem?_map,hx];rfl
  have hxl:=hlt x hxm
  by_cases c1:((x / 2 ^ p.length:Nat):Int)=0
  ·have hx2:x<2 ^ p.length:=by
    have h0:x / 2 ^ p.length=0:=by omega
    rcases Nat.div_eq_zero_iff.1 h0 with h | h
    ·exact absurd h (Nat.ne_of_gt (Nat.pow_pos (by decide)))
    ·exact h
   simp only[sz,simprocAttr,h28,h30,rp,u1,u2,cu,vl,h0,aJ _ _ _ hxl,c1]
   refine Ae (pa:=pa) (cv:=cv) (q:=q) n8 hx hxl hB (by simp[St,LRg,sx,h0,h2,h4,h28,h29,h30]) (by simp[sx]) (by simp[sx]) ?_
   rintro t g' ⟨h28,h29,h30,h5,h6,h0,h2,h4,-⟩ hB
   simp only[sz,simprocAttr]
   refine ⟨⟨by simp[St,LRg,sx,h0,h2,h4,h28],by rw[<-zV];exact hB,fun y hy=>?_⟩,h30,h29⟩
   rw[htk] at hy
   rcases List.mem_append.1 hy with h | h
   ·exact hok y h
   ·rw[List.mem_singleton.1 h];exact hx2
  ·simp only[sz,simprocAttr,h28,h30,h2,rp,u1,u2,cu,vl,h0,aJ _ _ _ hxl,c1,hB.h0]
   refine bad _ _ (fun hG=>c1 ?_) (by simp[H.get_put]) (by simp[sx,h2]) (by simp[sx])
   rw[Nat.div_eq_of_lt (hG.hp x hxm)];rfl
 ·rintro t df g ⟨rfl,⟨h28,ht⟩,h,hok⟩
  rw[List.take_length] at hok
  exact fin t g ht h hok
end
end
end Hx
end
section
namespace Hx
open Go
noncomputable section
section
variable {d:Nat}{p:List Nat}{pa cv:AV}{q:Nat}
theorem zB {Q:QT}{t:T}{g:G}{L:List Nat}{D j0:Nat}(n8:p.length<=8)(hlt:∀x∈p,x<18446744073709551616)(rp:∀h,aw h 1 pa=some (p.map cu))(hO:vT p L)(hD:za D L)(hG:vF p D)
  (ht:St t ((8,.int .u64 (D:Int))::(64,.int .i64 (p.length:Int))::(65,.int .i64 (j0:Int))::LRg pa q)) (h69:tat t 69=pa) (h71:tat t 71=.int .i64 0) (h70:tat t 70=.int .i64 (p.length:Int))
  (yes:∀t v,St t ((8,.int .u64 ((D ||| S.an v:Nat):Int))::(64,.int .i64 (p.length:Int))::(65,.int .i64 (j0:Int))::LRg pa q)->vT p (L++[v])->za (D ||| S.an v) (L++[v])->vF p (D ||| S.an v)->Q (.exit 5) t [] g)
  (no:∀t,St t (LRg pa q)->(∀v,v<p.length->D.testBit v=true\/¬Sub (Par p v) D)->Q (.exit 6) t [] g):wpL (wp C0 d none dZ) Q t [] g:=by
 simp only[dZ]
 refine cM (m:=p.length) (by omega) (fun j t df g'=>df=[]/\g'=g/\St t ((69,pa)::(8,.int .u64 (D:Int))::(64,.int .i64 (p.length:Int))::(65,.int .i64 (j0:Int))::LRg pa q)/\∀v,v<j->D.testBit v=true\/¬Sub (Par p v) D)
  ⟨rfl,rfl,⟨h69,ht⟩,fun v hv=>by omega⟩ h71 h70 (by decide)
  (by rintro j t df g v s (rfl | rfl | rfl) ⟨a1,a2,⟨b1,b2,b3,b4,b5,b6,b7,-⟩,c1⟩<;>exact ⟨a1,a2,by simp[St,LRg,sx,b1,b2,b3,b4,b5,b6,b7],c1⟩) ?_ ?_
 ·rintro j t df g' hj ⟨rfl,rfl,⟨h69,h8,h64,h65,h0,h2,h4,-⟩,hall⟩ h71 h70
  obtain ⟨x,hx,-,hxm⟩:=br hj
  have hpj:Par p j=x:=by simp[Par,hx]
  have hxl:=hlt x hxm
  have u1:j<(p.map cu).length:=by simpa using hj
  have u2:(p.map cu)[j]?=some (cu x):=by rw[List.getElem?_map,hx];rfl
  have b3:=gw x D hxl hD.1
  have next:(D.testBit j=true\/¬Sub (Par p j) D)->∀v,v<j+1->D.testBit v=true\/¬Sub (Par p v) D:=fun h v hv=>by
   by_cases e:v=j
   ·subst e;exact h
   ·exact hall v (by omega)
  cases hb:D.testBit j with
  | true =>
   simp only[sz,simprocAttr,h69,h71,h8,rp,u1,u2,cu,aJ _ _ _ hD.1,li hD.1,mK,hb]
   exact ⟨⟨by simp[St,LRg,sx,h0,h2,h4,h8,h64,h65,h69],next (.inl hb)⟩,h70⟩
  | false =>
   by_cases c2:((x ^^^ (x &&& D):Nat):Int)=0
   ·have hd0:S.aP x D=0:=by simpa [S.aP] using c2
    have hsub:=rH.1 hd0
    have hjL:j ∉ L:=fun h=>by
     have:=(hD.2 j).2 h
     rw[hb] at this;cases this
    have hone:aX .shl (.int .u64 1) (.int .i64 (j:Int))=.val (.int .u64 (S.an j:Int)):=aG .i64 j
    simp only[sz,simprocAttr,h69,h71,h8,rp,u1,u2,cu,aJ _ _ _ hD.1,li hD.1,mK,hb,b3,c2,hone,fp _ _ hD.1 (jK j)]
    refine yes _ j (by simp[St,LRg,sx,h0,h2,h4,h64,h65]) (xU hO hjL hj fun u hu=>?_) (xY hD (by omega)) (y5 hG (by omega) (by rw[hpj];exact hsub))
    rw[hpj] at hu;exact (hD.2 u).1 (hsub u hu)
   ·have hns:¬Sub (Par p j) D:=fun h=>c2 (by
     have:=rH.2 h
     rw[hpj] at this
     simp[S.aP] at this
     simp[this])
    simp only[sz,simprocAttr,h69,h71,h8,rp,u1,u2,cu,aJ _ _ _ hD.1,li hD.1,mK,hb,b3,c2]
    exact ⟨⟨by simp[St,LRg,sx,h0,h2,h4,h8,h64,h65,h69],next (.inr hns)⟩,h70⟩
 ·rintro t df g' ⟨rfl,rfl,⟨-,-,-,-,ht⟩,hall⟩
  exact no t ht hall
theorem y8 {Q:QT}{t:T}{g:G}(n8:p.length<=8)(hp:∀x∈p,x<2 ^ p.length)(hlt:∀x∈p,x<18446744073709551616)(vl:∀g,ej .slice pa g=.val (.int .i64 (p.length:Int)))(rp:∀h,aw h 1 pa=some (p.map cu))
  (hB:GrB pa cv q (S.aL p) g) (ht:St t ((8,.int .u64 0)::LRg pa q)) (h65:tat t 65=.int .i64 0) (h64:tat t 64=.int .i64 (p.length:Int))
  (bad:∀t g,¬GOk p->g.h.get 0=.cells 2 [[.nils,.nils]] 0 false false->tat t 2=.hptr 0 0 0 0->tat t 3=.int .i64 70->Q .ret t [] g)
  (fin:∀t,St t (LRg pa q)->S.aC p=true->Q (.exit 4) t [] g):wpL (wp C0 d none d9) Q t [] g:=by
 simp only[d9,gt]
 refine cM (m:=p.length) (by omega) (fun j t df g'=>df=[]/\g'=g/\∃(L:List Nat) (D:Nat),L.length=j/\vT p L/\za D L/\vF p D/\St t ((8,.int .u64 (D:Int))::LRg pa q))
  ⟨rfl,rfl,[],0,rfl,⟨by simp,by simp⟩,⟨by decide,by simp⟩,yU,ht⟩ h65 h64 (by decide)
  (by rintro j t df g v s (rfl | rfl | rfl) ⟨a1,a2,L,D,a3,a4,a5,a6,⟨b1,b2,b3,b4,-⟩⟩<;>exact ⟨a1,a2,L,D,a3,a4,a5,a6,by simp[St,LRg,sx,b1,b2,b3,b4]⟩) ?_ ?_
 ·rintro j t df g' hj ⟨rfl,rfl,L,D,hL,hO,hD,hG,h8,h0,h2,h4,-⟩ h65 h64
  have lg1:aL (.cells 2 [[pa,cv]] 0 false false) 0 0 false 1 0=.val pa:=rfl
  simp only[sz,simprocAttr,h4,hB.hq,lg1,vl]
  refine zB (pa:=pa) (q:=q) (L:=L) (D:=D) (j0:=j) n8 hlt rp hO hD hG (by simp[St,LRg,sx,h0,h2,h4,h8,h64,h65]) (by simp[sx]) (by simp[sx]) (by simp[sx]) ?_ ?_
  ·rintro t v ⟨h8,h64,h65,ht⟩ hO2 hD2 hG2
   simp only[sz,simprocAttr]
   exact ⟨⟨L++[v],D ||| S.an v,by simp[hL],hO2,hD2,hG2,h8,ht⟩,h65,h64⟩
  ·rintro t ⟨h0,h2,h4,-⟩ hall
   simp only[sz,simprocAttr,gT,h2,hB.h0]
   refine bad _ _ (fun hg=>?_) (by simp[H.get_put]) (by simp[sx,h2]) (by simp[sx])
   obtain ⟨v0,hv0,hv0'⟩:=Cw hO (by omega)
   have:=rY hp hg.ac (T:=D) (fun v hv hb=>by
    rcases hall v hv with h | h
    ·rw[h] at hb;cases hb
    ·exact h) v0 hv0
   exact hv0' ((hD.2 v0).1 this)
 ·rintro t df g' ⟨rfl,rfl,L,D,hL,hO,hD,hG,-,ht⟩
  have hfull:=yg hO (by omega)
  exact fin t ht (sD hG fun v hv=>(hD.2 v).2 (hfull.1 v hv))
theorem CB {a b:AV}{i:Nat}(ha:pi a=true)(hb:vid b=some i):fC [.nils,.nils] [((0,1),.agg [a]),((1,1),b)]=some [a,b]:=by
 cases b<;>first | rfl | cases hb
theorem tg {g:G}{v':AV}(hd:0<d)(hv:SlR NoP 0 .nil p v'):∃z,ap C0 d N.au [v'] g=.val z/\GrV p NoP 0 .nil z:=by
 have r1:∀h,SlR NoP 0 h p v':=fun h=>hv.tree (Nat.le_refl 0)
 have e:=ig (h:=g.h) d (r1 g.h)
 have hlt:=bf hv
 rw[lZ]
 refine fu nq (xs:=[v']) (by simp only[aA,e]) (by simp[cE]) (j8 (m:=2) (rW _) (dw _) (by decide) (by decide)) (by decide) hd ?_
 have vl:∀g,ej .slice v' g=.val (.int .i64 (p.length:Int)):=fun g=>(r1 .nil).len g
 have ra:∀h,aw h 1 v'=some (p.map cu):=fun h=>(r1 h).nats
 by_cases c1:p.length<1
 ·simp only[sz,simprocAttr,cE,cQ,vl,show ((p.length:Int)<1) from by omega]
  exact sG (fun h=>by have:=h.l1;omega)
 by_cases c2:8<p.length
 ·simp only[sz,simprocAttr,cE,cQ,vl,show ¬((p.length:Int)<1) from by omega,show ((8:Int)<p.length) from by omega]
  exact sG (fun h=>by have:=h.l8;omega)
 have yp:pi v'=true:=nl (r1 .nil) (by omega)
 have fl:fC [.nils] [((0,1),v')]=some [v']:=by cases v'<;>first | rfl | cases yp
 simp only[sz,simprocAttr,cE,cQ,vl,show ¬((p.length:Int)<1) from by omega,show ¬((8:Int)<p.length) from by omega,fl]
 refine wj (b:=1) (n:=p.length) (bytes:=8) (sz:=1) (zero:=[.int .u64 0]) (by unfold el;omega) (by unfold el;omega) ?_ fun cv g1 hu n1 f1 hvid=>?_
 ·simp
 have fl2:fC [.nils,.nils] [((0,1),.agg [v']),((1,1),cv)]=some [v',cv]:=CB yp hvid
 have n1':g1.nx=2:=by rw[n1];rfl
 simp only[sz,simprocAttr,fl2,n1']
 have hB:GrB v' cv 2 (S.aw p 0 0) ((g1.new (.cells 2 [[.nils,.nils]] 0 false false)).put 2 (.cells 2 [[v',cv]] 0 false false)):=by
  have hne:vid cv≠some 2:=fun e=>by have:=(hu.lt e).2;omega
  refine ⟨?_,by simp[H.get_put],?_,by decide,by simp[n1'],hne⟩
  ·simp[H.get_put,n1']
   rw[f1 0 (by decide)];rfl
  ·rw[zd,List.map_replicate]
   refine hu.fr (by simp) fun i hi=>?_
   have:=(hu.lt hi).2
   simp[H.get_put,n1',show ¬i=2 by omega]
 obtain ⟨g2,hg2⟩:∃g2,g2=((g1.new (.cells 2 [[.nils,.nils]] 0 false false)).put 2 (.cells 2 [[v',cv]] 0 false false)):=⟨_,rfl⟩
 rw[<-hg2] at hB ⊢
 clear hg2 hu f1 hvid n1' n1
 simp only[sz,simprocAttr,vl]
 refine Bj (pa:=v') (cv:=cv) (q:=2) (by omega) hlt vl ra yp hB (by simp[St,LRg,sx]) (by simp[sx]) (by simp[sx]) (by simp[sx]) ?_ ?_
 ·intro t g hn a1 a2 a3
  simp only[sz,simprocAttr,a1,a2,a3]
  exact sG hn
 ·rintro t g ⟨h0,h2,h4,-⟩ hB hp
  rw[BT] at hB
  have lg1:aL (.cells 2 [[v',cv]] 0 false false) 0 0 false 1 0=.val v':=rfl
  simp only[sz,simprocAttr,gS,h4,hB.hq,lg1,vl]
  refine y8 (pa:=v') (cv:=cv) (q:=2) (by omega) hp hlt vl ra hB (by simp[St,LRg,sx,h0,h2,h4]) (by simp[sx]) (by simp[sx]) ?_ ?_
  ·intro t g hn a1 a2 a3
   simp only[sz,simprocAttr,a1,a2,a3]
   exact sG hn
  ·rintro t ⟨h0,h2,h4,-⟩ hac
   have hG:S.ax p=true:=iZ.2 ⟨by omega,by omega,hp,hac⟩
   have hs2:Own (g.put 0 (.cells 2 [[v',cv]] 0 false false)) 1 cv 1 ((S.aL p).map cu):=hB.hs.fr (by simp) fun i hi=>by
    have:=(hB.hs.lt hi).1
    simp[H.get_put,show ¬i=0 by omega]
   have hsl:=hs2.nats' (by rw[s5];omega) fun y hy=>by
    obtain ⟨u,-,rfl⟩:=List.mem_map.1 hy
    have:=ir (Eg p u) p.length
    have:=iU (show p.length<=8 by omega)
    omega
   have hld:aL (.cells 2 [[v',cv]] 0 false false) 0 0 true 2 0=.val (.agg [v',cv]):=rfl
   simp only[sz,simprocAttr,gM,h2,h4,hB.hq,hB.h0,hld]
   refine ⟨fun _=>True,_,_,rfl,⟨_,rfl,?_⟩,?_⟩
   ·rw[S.gr,hG]
    exact eP.2 ⟨[v'],[cv],rfl,aK.2 ⟨v',rfl,(r1 .nil).wide (Nat.le_refl _)⟩,aK.2 ⟨cv,rfl,hsl⟩⟩
   ·rw[hG];exact c_.2 rfl
end
end
end Hx
end
section
namespace Hx
open Go
noncomputable section
theorem wM {d k:Nat}{g:G}{P:Nat->Prop}{v:AV}{p:List Nat}{s:Nat}(hd:0<d)(hv:SlR P k g.h p v)(n8:p.length<=8)(hs:s<2 ^ p.length) :
  ap C0 d N.aA [v,.int .u64 (s:Int)] g=.val (.int .u64 (S.dn p s p.length:Int)):=by
 obtain ⟨v',e,r1⟩:=bY hv d
 have hp:=bf hv
 have hl:=hv.1
 have h256:=iU n8
 rw[oD]
 refine eN qD (xs:=[v',.int .u64 (s:Int)]) (by simp only[aA,e,aW 0]) (by simp[jg]) hd ?_
 simp only[sz,simprocAttr,jg]
 refine eT hl (r1 .nil).len (fun j t df g=>df=[]/\tat t 1=.int .u64 (S.dn p s j:Int)) ⟨rfl,by simp[sx,S.dn]⟩ (by simp[sx]) (by simp[sx]) (by decide)
  (by rintro j t df g v s (rfl | rfl | rfl | rfl | rfl | rfl | rfl)<;>simp[sx]) ?_ ?_
 ·rintro j t df g hj ⟨rfl,h1⟩ h5 h0
  simp only[sz,simprocAttr]
  have hu:=nZ hs j
  refine eT hl (r1 .nil).len (fun i t df g=>df=[]/\tat t 5=.int .i64 (j:Int)/\tat t 1=.int .u64 (S.af p (S.dn p s j) i:Int)) ⟨rfl,by simp[sx,h5],by simp[sx,S.af,h1]⟩ (by simp[sx]) (by simp[sx,h0]) (by decide)
   (by rintro j t df g v s (rfl | rfl | rfl | rfl | rfl | rfl | rfl)<;>simp[sx]) ?_ ?_
  ·rintro i t df g hi ⟨rfl,h5,h1⟩ h6 h0
   have hr:=my hu i (by omega)
   obtain ⟨x,hx,-,hm⟩:=br hi
   have hpi:Par p i=x:=by simp[Par,hx]
   have hsh:aX .shl (.int .u64 1) (.int .u64 (i:Int))=.val (.int .u64 ((2 ^ i:Nat):Int)):=by rw[aG,cP (by omega)]
   have h2i:(2:Nat) ^ i<=2 ^ 8:=Nat.pow_le_pow_right (by decide) (by omega)
   by_cases c:((x &&& S.af p (S.dn p s j) i:Nat):Int)=0
   ·simp only[sz,simprocAttr,h0,h1,h5,h6,(r1 g.h).nats,hi,hx,List.length_map,List.getElem?_map,Option.map_some,cu,bp _ _ (hp x hm) (show S.af p (S.dn p s j) i<18446744073709551616 by omega),c]
    rw[S.af,hpi,if_pos (by omega)]
   ·simp only[sz,simprocAttr,h0,h1,h5,h6,(r1 g.h).nats,hi,hx,List.length_map,List.getElem?_map,Option.map_some,cu,bp _ _ (hp x hm) (show S.af p (S.dn p s j) i<18446744073709551616 by omega),c,cU (show (0:Int)<=(i:Int) by omega) (by omega),hsh,fp (S.af p (S.dn p s j) i) (2 ^ i) (by omega) (by omega)]
    rw[S.af,hpi,if_neg (by omega)]
  ·rintro t df g ⟨rfl,h5,h1⟩ h0
   simp only[sx,sy,↓reduceIte,h0,h5,h1]
   rw[S.dn]
 ·rintro t df g ⟨rfl,h1⟩ -
  simp only[sz,simprocAttr,jA,h1]
theorem ru {d k:Nat}{g:G}{P:Nat->Prop}{v:AV}{p:List Nat}(hd:0<d)(hv:SlR P k g.h p v) :
  ap C0 d N.aE [v] g=.val (.bool (S.ax p)):=by
 obtain ⟨v',e,r1⟩:=bY hv d
 have hlt:=bf hv
 have hl:=hv.1
 rw[nm]
 refine cG pT (xs:=[v']) (by simp only[aA,e]) (by simp[dN]) hd ?_
 have vl:∀g,ej .slice v' g=.val (.int .i64 (p.length:Int)):=fun g=>(r1 .nil).len g
 by_cases c1:p.length<1
 ·simp only[sz,simprocAttr,dN,vl,show ((p.length:Int)<1) from by omega]
  rw[pV fun h=>by have:=h.l1;omega]
 by_cases c2:8<p.length
 ·simp only[sz,simprocAttr,dN,vl,show ¬((p.length:Int)<1) from by omega,show ((8:Int)<p.length) from by omega]
  rw[pV fun h=>by have:=h.l8;omega]
 simp only[sz,simprocAttr,dN,vl,show ¬((p.length:Int)<1) from by omega,show ¬((8:Int)<p.length) from by omega]
 simp only[iD]
 refine eT hl (r1 .nil).len (fun j t df g=>df=[]/\∀x∈p.take j,x<2 ^ p.length) ⟨rfl,by simp⟩ (by simp[sx]) (by simp[sx]) (by decide)
  (by rintro j t df g v s (rfl | rfl | rfl | rfl | rfl | rfl | rfl)<;>simp[sx]) ?_ ?_
 ·rintro j t df g hj ⟨rfl,hw⟩ h3 h0
  obtain ⟨x,hx,htk,hm⟩:=br hj
  have hxl:=hlt x hm
  by_cases c:((x / 2 ^ p.length:Nat):Int)=0
  ·have hx2:x<2 ^ p.length:=by
    have h0:x / 2 ^ p.length=0:=by omega
    rcases Nat.div_eq_zero_iff.1 h0 with h | h
    ·exact absurd h (Nat.ne_of_gt (Nat.pow_pos (by decide)))
    ·exact h
   simp only[sz,simprocAttr,h0,h3,vl,(r1 g.h).nats,hj,hx,List.length_map,List.getElem?_map,Option.map_some,cu,cU (show (0:Int)<=(p.length:Int) by omega) (by omega),aJ _ _ _ hxl,c]
   refine fun y hy=>?_
   rw[htk] at hy
   rcases List.mem_append.1 hy with h | h
   ·exact hw y h
   ·rw[List.mem_singleton.1 h];exact hx2
  ·simp only[sz,simprocAttr,h0,h3,vl,(r1 g.h).nats,hj,hx,List.length_map,List.getElem?_map,Option.map_some,cu,cU (show (0:Int)<=(p.length:Int) by omega) (by omega),aJ _ _ _ hxl,c]
   rw[pV fun h=>c (by rw[Nat.div_eq_of_lt (h.hp x hm)];rfl)]
 ·rintro t df g ⟨rfl,hw⟩ h0
  rw[List.take_length] at hw
  have kA:=fun g=>uf (d:=d+1) (g:=g) (Nat.succ_pos d) (r1 g.h)
  simp only[sz,simprocAttr,iI,h0,kA]
  have:S.ax p=S.aC p:=by
   cases h:S.aC p with
   | true=>exact iZ.2 ⟨by omega,by omega,hw,h⟩
   | false=>exact pV fun h'=>by rw[h'.ac] at h;cases h
  rw[this]
def S.ay (n:Nat):List Nat->Nat->Bool
 | [],_=>true
 | x::l,a=>decide (x<2 ^ n)&&decide (x &&& a=0)&&S.ay n l (a ||| x)
theorem zE {n x a:Nat}{l:List Nat}(h:¬x<2 ^ n):S.ay n (x::l) a=false:=by simp[S.ay,h]
theorem Ai {n x a:Nat}{l:List Nat}(h:¬x &&& a=0):S.ay n (x::l) a=false:=by simp[S.ay,h]
theorem yJ {n x a:Nat}{l:List Nat}(h:x<2 ^ n)(h2:x &&& a=0):S.ay n (x::l) a=S.ay n l (a ||| x):=by simp[S.ay,h,h2]
theorem eF {x n:Nat}:((x / 2 ^ n:Nat):Int)=0↔x<2 ^ n:=by
 constructor
 ·intro h
  have h0:x / 2 ^ n=0:=by omega
  rcases Nat.div_eq_zero_iff.1 h0 with h | h
  ·exact absurd h (Nat.ne_of_gt (Nat.pow_pos (by decide)))
  ·exact h
 ·intro h
  rw[Nat.div_eq_of_lt h];rfl
theorem yO {α:Type}{l:List α}{j:Nat}{x:α}(h:l[j]?=some x):l.drop j=x::l.drop (j+1):=by
 obtain ⟨h1,rfl⟩:=List.getElem?_eq_some_iff.1 h
 exact List.drop_eq_getElem_cons h1
def S.az (p l:List Nat):Int:=if S.ax p then (if S.ay p.length l 0 then 0 else 2) else 70
theorem tJ {d k:Nat}{g:G}{P:Nat->Prop}{v:AV}{p:List Nat}{x s:Nat}(hd:0<d)(hv:SlR P k g.h p v)(n8:p.length<=8)(hx:x<p.length)(hs:s<18446744073709551616) :
  ap C0 d N.aq [v,.int .i64 (x:Int),.int .u64 (s:Int)] g=.val (.int .u64 (S.dn (S.ct p s) (2 ^ x) p.length:Int)):=by
 obtain ⟨v',e,r1⟩:=bY hv d
 have hp:=bf hv
 have hl:=hv.1
 have h256:=iU n8
 have vl:∀g,ej .slice v' g=.val (.int .i64 (p.length:Int)):=fun g=>(r1 .nil).len g
 have rt:=fun h=>(r1 h).nats
 have hn:(S.ct p s).length=p.length:=lS s
 have hx2:2 ^ x<2 ^ (S.ct p s).length:=by rw[hn];exact Nat.pow_lt_pow_right (by decide) hx
 have hsh:∀i,i<p.length->aX .shl (.int .u64 1) (.int .i64 (i:Int))=.val (.int .u64 ((2 ^ i:Nat):Int)):=fun i hi=>by rw[aG,cP (by omega)]
 rw[mY]
 refine eN oH (xs:=[v',.int .i64 (x:Int),.int .u64 (s:Int)]) (by simp only[aA,e,aW]) (by simp[gR]) hd ?_
 simp only[sz,simprocAttr,gR,vl,hsh x hx]
 simp only[hZ]
 refine cM (m:=p.length) hl (fun j t df g=>df=[]/\St t [(0,v'),(2,.int .u64 (s:Int)),(7,.int .u64 (S.dn (S.ct p s) (2 ^ x) j:Int))]) ⟨rfl,by simp[St,sx,S.dn]⟩ (by simp[sx]) (by simp[sx]) (by decide)
  (by rintro j t df g v s (rfl | rfl | rfl)<;>simp[sx,St]) ?_ ?_
 ·rintro j t df g hj ⟨rfl,h0,h2,h7,-⟩ h14 h13
  have hu:=nZ hx2 j
  obtain ⟨R,hR⟩:∃R,R=S.dn (S.ct p s) (2 ^ x) j:=⟨_,rfl⟩
  rw[<-hR] at h7 hu
  simp only[sz,simprocAttr,h0,vl,ii,hU]
  refine cM (m:=p.length) hl (fun i t df g=>df=[]/\St t [(0,v'),(2,.int .u64 (s:Int)),(13,.int .i64 (p.length:Int)),(14,.int .i64 (j:Int)),(16,v'),(7,.int .u64 (S.af (S.ct p s) R i:Int))]) ⟨rfl,by simp[St,sx,S.af,h0,h2,h7,h13,h14]⟩ (by simp[sx]) (by simp[sx]) (by decide)
   (by rintro j t df g v s (rfl | rfl | rfl)<;>simp[sx,St]) ?_ ?_
  ·rintro i t df g hi ⟨rfl,h0,h2,h13,h14,h16,h7,-⟩ h18 h17
   have hr:=my hu i (by omega)
   rw[hn] at hr
   obtain ⟨y,hy,-,hm⟩:=br hi
   have hyl:=hp y hm
   have z1:i<(p.map cu).length:=by simpa using hi
   have z2:(p.map cu)[i]?=some (cu y):=by rw[List.getElem?_map,hy];rfl
   have hpar:Par (S.ct p s) i=if s.testBit i then 0 else y:=by rw[z8];simp[Par,hy]
   have h2i:(2:Nat) ^ i<=2 ^ 8:=Nat.pow_le_pow_right (by decide) (by omega)
   obtain ⟨r,hrr⟩:∃r,r=S.af (S.ct p s) R i:=⟨_,rfl⟩
   have hnx:S.af (S.ct p s) R (i+1)=if Par (S.ct p s) i &&& r=0 then r else r ||| 2 ^ i:=by rw[S.af,hrr]
   rw[<-hrr] at h7 hr
   rw[hnx,hpar]
   by_cases c:y &&& r=0
   ·simp only[sz,simprocAttr,h0,h2,h7,h13,h14,h16,h17,h18,rt,z1,z2,cu,bp y r hyl (show r<18446744073709551616 by omega),c]
    have:(if (if s.testBit i=true then 0 else y) &&& r=0 then r else r ||| 2 ^ i)=r:=by
     rw[if_pos];cases s.testBit i<;>simp[c]
    rw[this]
    simp[St,sx,h0,h2,h7,h13,h14,h16,h17,h18]
   ·have c':¬((y &&& r:Nat):Int)=0:=by omega
    cases hb:s.testBit i with
    | true =>
     simp only[sz,simprocAttr,h0,h2,h7,h13,h14,h16,h17,h18,rt,z1,z2,cu,bp y r hyl (show r<18446744073709551616 by omega),c',aJ _ _ _ hs,li hs,mK,hb]
     simp[St,sx,h0,h2,h7,h13,h14,h16,h17,h18]
    | false =>
     simp only[sz,simprocAttr,h0,h2,h7,h13,h14,h16,h17,h18,rt,z1,z2,cu,bp y r hyl (show r<18446744073709551616 by omega),c',aJ _ _ _ hs,li hs,mK,hb,hsh i hi,fp r (2 ^ i) (show r<18446744073709551616 by omega) (show 2 ^ i<18446744073709551616 by omega),c]
     simp[St,sx,h0,h2,h7,h13,h14,h16,h17,h18]
  ·rintro t df g ⟨rfl,h0,h2,h13,h14,h16,h7,-⟩
   simp only[sz,simprocAttr,h14]
   rw[show S.dn (S.ct p s) (2 ^ x) (j+1)=S.af (S.ct p s) R (S.ct p s).length from by rw[S.dn,hR],hn]
   simp[St,sx,h0,h2,h13,h14,h7]
 ·rintro t df g ⟨rfl,h0,h2,h7,-⟩
  simp only[sz,simprocAttr,ia,h7]
def WoV (p:List Nat)(s:Nat):VS:=fun P k h v=>One (S.wo p s) P k h v
theorem pr {m n:Nat}(h:m<18446744073709551616):m ^^^ (m &&& n)<18446744073709551616:=Nat.xor_lt_two_pow (n:=64) h (Nat.lt_of_le_of_lt Nat.and_le_left h)
def S.aE (p:List Nat)(s j:Nat):List Nat:=S.wo (p.take j) s++p.drop j
theorem AO (p:List Nat)(s:Nat):S.aE p s 0=p:=by simp[S.aE,S.wo]
theorem Cm (p:List Nat)(s j:Nat):(S.aE p s j).length=p.length:=by simp[S.aE,S.wo];omega
theorem CA (p:List Nat)(s:Nat):S.aE p s p.length=S.wo p s:=by simp[S.aE]
theorem BO {p:List Nat}{s j y:Nat}(hy:p[j]?=some y):(S.aE p s j)[j]?=some y:=by
 have hj:=(List.getElem?_eq_some_iff.1 hy).1
 rw[S.aE,List.getElem?_append_right (by simp[S.wo];omega)]
 have:(S.wo (p.take j) s).length=j:=by simp[S.wo];omega
 rw[this,Nat.sub_self,List.getElem?_drop,Nat.add_zero,hy]
theorem Cz {p:List Nat}{s j y:Nat}(hy:p[j]?=some y):(S.aE p s j).set j (y ^^^ (y &&& s))=S.aE p s (j+1):=by
 have hj:=(List.getElem?_eq_some_iff.1 hy).1
 have hl:(S.wo (p.take j) s).length=j:=by simp[S.wo];omega
 rw[S.aE,S.aE,List.set_append_right _ _ (by omega),hl,Nat.sub_self,List.drop_eq_getElem_cons hj,List.set_cons_zero,List.take_add_one,S.wo,S.wo,List.map_append,hy]
 simp
theorem lP {d k:Nat}{g:G}{P:Nat->Prop}{v:AV}{p:List Nat}{s:Nat}(hd:0<d)(hv:SlR P k g.h p v)(n8:p.length<=8)(n1:1<=p.length)(hs:s<18446744073709551616) :
  ∃r,ap C0 d N.ap [v,.int .u64 (s:Int)] g=.val r/\WoV p s NoP 0 .nil r:=by
 obtain ⟨v',e,r1⟩:=bY hv d
 have hp:=bf hv
 have vl:∀g,ej .slice v' g=.val (.int .i64 (p.length:Int)):=fun g=>(r1 .nil).len g
 have rt:=fun h=>(r1 h).nats
 rw[kX]
 refine fu mD (xs:=[v',.int .u64 (s:Int)]) (by simp only[aA,e,aW]) (by simp[e_]) (dw _) (by decide) hd ?_
 simp only[sz,simprocAttr,e_]
 refine dT (b:=0) (rows:=[]) (new:=p.map cu) (.inr ⟨0,0,false,Nat.le_refl 0,by simp,rfl,by simp[sx]⟩) (rt _) (Nat.zero_le _) (by rw[List.length_map,el];simp;omega) fun u g0 hu _ _ _ _=>?_
 rw[List.nil_append] at hu
 have ul:∀g,ej .slice u g=.val (.int .i64 (p.length:Int)):=fun g=>by
  rcases hu with ⟨rfl,h⟩ | ⟨id,ep,lo,-,-,rfl,-⟩
  ·have:=congrArg List.length h
   rw[List.length_map,List.length_nil] at this;omega
  ·simp[ej]
 simp only[sz,simprocAttr,ul,fY]
 refine cM (m:=p.length) (by omega) (fun j t df g=>df=[]/\St t [(1,.int .u64 (s:Int)),(5,u)]/\Own g 0 u 1 ((S.aE p s j).map cu)) ⟨rfl,by simp[St,sx],by rw[AO];exact hu⟩ (by simp[sx]) (by simp[sx]) (by decide)
  (by rintro j t df g v s (rfl | rfl | rfl)<;>simp[sx,St]) ?_ ?_
 ·rintro j t df g hj ⟨rfl,⟨h1,h5,-⟩,hO⟩ h12 h11
  obtain ⟨y,hy,-,hm⟩:=br hj
  have hyl:=hp y hm
  have z1:j<((S.aE p s j).map cu).length:=by rw[List.length_map,Cm];exact hj
  have z2:((S.aE p s j).map cu)[j]?=some (cu y):=by rw[List.getElem?_map,BO hy];rfl
  have rO:=hO.rows
  simp only[sz,simprocAttr,h1,h5,h11,h12,rO,z1,z2,cu,gw y s hyl hs]
  refine nK (v:=u) (sz:=1) (n:=1) (i:=j) (off:=0) (x:=.int .u64 ((y ^^^ (y &&& s):Nat):Int)) (row':=cu (y ^^^ (y &&& s))) hO z2 rfl rfl rfl fun g4 hu4 n4 f4=>?_
  rw[<-List.map_set,Cz hy] at hu4
  simp only[sz,simprocAttr,h12]
  exact ⟨⟨by simp[St,sx,h1,h5],hu4⟩,h11⟩
 ·rintro t df g ⟨rfl,⟨h1,h5,-⟩,hO⟩
  simp only[sz,simprocAttr,fX,h5]
  rw[CA] at hO
  exact ⟨_,aK.2 ⟨_,rfl,hO.natsV (by rw[gQ];omega) fun y hy=>by
   obtain ⟨z,hz,rfl⟩:=List.mem_map.1 hy
   exact pr (hp z hz)⟩⟩
def cn (i:Nat):Int:=(i:Int)
theorem nM {l:List Nat}{i x:Nat}(h:l[i]?=some x):((l.map cn).map ci)[i]?=some (ci (x:Int)):=by rw[List.getElem?_map,List.getElem?_map,h];rfl
theorem jQ {s v:Nat}:S.aM s v=s.testBit v:=kH s v
theorem Cf {d k k2:Nat}{g:G}{P P2:Nat->Prop}{v w:AV}{p tr:List Nat}{i a b c:Nat}(hd:0<d)(hv:SlR P k g.h p v)(hw:SlR P2 k2 g.h (tr.map cn) w)(hi:1<=i)(h1:tr[i - 1]?=some a)(h2:tr[i]?=some b)(h3:tr[i+1]?=some c)(hn:p.length<=8)(ha:a<p.length)(hb:b<p.length)(hc:c<p.length) :
  ap C0 d N.aI [v,w,.int .i64 (i:Int)] g=.val (.bool ((Par p b).testBit a&&(Par p b).testBit c)):=by
 obtain ⟨v',e,r1⟩:=bY hv d
 obtain ⟨w',e2,r2⟩:=bY hw d
 have hlt:=bf hv
 have hl1:=hw.1
 rw[List.length_map] at hl1
 have l3:=(List.getElem?_eq_some_iff.1 h3).1
 rw[lf]
 refine cG mU (xs:=[v',w',.int .i64 (i:Int)]) (by simp only[aA,e,e2,aW]) (by simp[fh]) hd ?_
 have hpb:p[b]?=some (Par p b):=by simp[Par,List.getElem?_eq_getElem hb]
 have hpl:=hlt _ (List.mem_of_getElem? hpb)
 have rp:=fun h=>(r1 h).nats
 have rt:=fun h=>(r2 h).ints
 have u1:b<(p.map cu).length:=by simpa using hb
 have u2:(p.map cu)[b]?=some (cu (Par p b)):=by rw[List.getElem?_map,hpb];rfl
 have q1:=nM h1
 have q2:=nM h2
 have q3:=nM h3
 have z1:i - 1<((tr.map cn).map ci).length:=by simp;omega
 have z2:i<((tr.map cn).map ci).length:=by simp;omega
 have z3:i+1<((tr.map cn).map ci).length:=by simp;omega
 have w1:IntKind.wrap .i64 ((i:Int) - 1)=((i - 1:Nat):Int):=by rw[eX (by omega) (by omega)];omega
 have w2:IntKind.wrap .i64 ((i:Int)+1)=((i+1:Nat):Int):=by rw[eX (by omega) (by omega)];omega
 have kI1:∀g,ap C0 (d+1) N.aa [.int .u64 (Par p b:Int),.int .i64 (a:Int)] g=.val (.bool ((Par p b).testBit a)):=fun g=>by rw[iN (Nat.succ_pos d) hpl (by omega),jQ]
 have kI2:∀g,ap C0 (d+1) N.aa [.int .u64 (Par p b:Int),.int .i64 (c:Int)] g=.val (.bool ((Par p b).testBit c)):=fun g=>by rw[iN (Nat.succ_pos d) hpl (by omega),jQ]
 simp only[sz,simprocAttr,sf,fh,rp,rt,u1,u2,q1,q2,q3,z1,z2,z3,w1,w2,cu,ci,kI1]
 cases (Par p b).testBit a with
 | true=>simp only[sz,simprocAttr,sf,rp,rt,u1,u2,q1,q2,q3,z1,z2,z3,w1,w2,cu,ci,kI2,Bool.true_and]
 | false=>simp only[sz,simprocAttr,sf,Bool.false_and]
def S.aO (p:List Nat)(zs:Nat)(tr:List Nat):Bool:=@decide (opL (Eg p) (Bt zs) tr.reverse) (Classical.propDecidable _)
theorem oT {p:List Nat}{zs:Nat}{tr:List Nat}:S.aO p zs tr=true↔opL (Eg p) (Bt zs) tr.reverse:=by
 rw[S.aO,@decide_eq_true_iff]
theorem Dq {p:List Nat}{zs:Nat}{tr:List Nat}(h:¬opL (Eg p) (Bt zs) tr.reverse):S.aO p zs tr=false:=by
 cases e:S.aO p zs tr with
 | false=>rfl
 | true=>exact absurd (oT.1 e) h
theorem Bv {d k k2:Nat}{g:G}{P P2:Nat->Prop}{v w:AV}{p tr:List Nat}{zs:Nat}(hd:0<d)(hv:SlR P k g.h p v)(hw:SlR P2 k2 g.h (tr.map cn) w)(hp:∀x∈p,x<2 ^ p.length)(hn:p.length<=8)(ht:∀x∈tr,x<p.length)(hz:zs<2 ^ p.length) :
  ap C0 d N.aO [v,w,.int .u64 (zs:Int)] g=.val (.bool (S.aO p zs tr)):=by
 obtain ⟨v',e,r1⟩:=bY hv d
 obtain ⟨w',e2,r2⟩:=bY hw d
 have hl1:=hw.1
 rw[List.length_map] at hl1
 have h256:=iU hn
 rw[oy]
 refine cG qG (xs:=[v',w',.int .u64 (zs:Int)]) (by simp only[aA,e,e2,aW]) (by simp[jc]) hd ?_
 have rt:=fun h=>(r2 h).ints
 have wl:∀g,ej .slice w' g=.val (.int .i64 (tr.length:Int)):=fun g=>by rw[(r2 .nil).len g,List.length_map]
 simp only[sz,simprocAttr,jc]
 refine pC (fun n t df g=>df=[]/\∃i:Nat,n=tr.length - i/\1<=i/\(i=1\/i+1<=tr.length)/\St t [(0,v'),(1,w'),(2,.int .u64 (zs:Int)),(7,.int .i64 (i:Int))]/\∀k u v w,1<=k->k<i->tr[k - 1]?=some u->tr[k]?=some v->tr[k+1]?=some w->okT (Eg p) (Bt zs) u v w) (tr.length - 1)
  ⟨rfl,1,rfl,by omega,by omega,by simp[St,sx],fun k u v w h1 h2=>by omega⟩ ?_
 rintro n t df g ⟨rfl,i,rfl,hi,hil,⟨h0,h1,h2,h7,-⟩,hall⟩
 have w2:IntKind.wrap .i64 ((i:Int)+1)=((i+1:Nat):Int):=by rw[eX (by omega) (by omega)];omega
 simp only[jr,jv]
 by_cases hlt:i+1<tr.length
 ·obtain ⟨a,ha⟩:∃a,tr[i - 1]?=some a:=⟨_,List.getElem?_eq_getElem (by omega)⟩
  obtain ⟨b,hb⟩:∃b,tr[i]?=some b:=⟨_,List.getElem?_eq_getElem (by omega)⟩
  obtain ⟨c,hc⟩:∃c,tr[i+1]?=some c:=⟨_,List.getElem?_eq_getElem (by omega)⟩
  have hal:=ht a (List.mem_of_getElem? ha)
  have hbl:=ht b (List.mem_of_getElem? hb)
  have hcl:=ht c (List.mem_of_getElem? hc)
  have q2:=nM hb
  have z2:i<((tr.map cn).map ci).length:=by simp;omega
  have c1:((i+1:Nat):Int)<(tr.length:Int):=by omega
  have kC:=fun g=>Cf (d:=d+1) (g:=g) (Nat.succ_pos d) (r1 g.h) (r2 g.h) hi ha hb hc hn hal hbl hcl
  have h2b:(2:Nat) ^ b<2 ^ p.length:=Nat.pow_lt_pow_right (by decide) hbl
  have kD:=fun g=>wM (d:=d+1) (g:=g) (s:=2 ^ b) (Nat.succ_pos d) (r1 g.h) hn h2b
  have kI:∀g,ap C0 (d+1) N.aa [.int .u64 (zs:Int),.int .i64 (b:Int)] g=.val (.bool (zs.testBit b)):=fun g=>by rw[iN (Nat.succ_pos d) (by omega) (by omega),jQ]
  have hsh:aX .shl (.int .u64 1) (.int .u64 (b:Int))=.val (.int .u64 ((2 ^ b:Nat):Int)):=by rw[aG,cP (by omega)]
  have hdl:=nZ h2b p.length
  have hbp:p[b]?=some (Par p b):=by simp[Par,List.getElem?_eq_getElem hbl]
  have next:okT (Eg p) (Bt zs) a b c->∀k u v w,1<=k->k<i+1->tr[k - 1]?=some u->tr[k]?=some v->tr[k+1]?=some w->okT (Eg p) (Bt zs) u v w:=fun h k u v w a1 a2 e1 e2 e3=>by
   by_cases ek:k=i
   ·subst ek
    rw[ha] at e1;rw[hb] at e2;rw[hc] at e3
    injection e1 with e1;injection e2 with e2;injection e3 with e3
    subst e1 e2 e3
    exact h
   ·exact hall k u v w a1 (by omega) e1 e2 e3
  have fail:¬okT (Eg p) (Bt zs) a b c->S.aO p zs tr=false:=fun h=>Dq fun ho=>h (zO.1 ho i a b c hi ha hb hc)
  have w1:IntKind.wrap .u64 (b:Int)=(b:Int):=cU (by omega) (by omega)
  cases hcol:(Par p b).testBit a&&(Par p b).testBit c with
  | true =>
   have hcc:Eg p a b/\Eg p c b:=by rwa [Bool.and_eq_true] at hcol
   rw[hcol] at kC
   have hand:=bp (S.dn p (2 ^ b) p.length) zs (by omega) (by omega)
   have hAn:S.dn p (2 ^ b) p.length &&& zs=0↔¬An (Eg p) (Bt zs) b:=by
    rw[<-Classical.not_not (a:=S.dn p (2 ^ b) p.length &&& zs=0)]
    refine not_congr ?_
    show _≠0↔_
    rw[sX]
    constructor
    ·rintro ⟨x,x1,x2⟩
     obtain ⟨u,u1,u2⟩:=(Bo hp h2b x).1 x1
     rw[Nat.testBit_two_pow,decide_eq_true_iff] at u1
     subst u1
     exact ⟨x,x2,u2⟩
    ·rintro ⟨x,x1,x2⟩
     exact ⟨x,(Bo hp h2b x).2 ⟨b,by rw[Nat.testBit_two_pow,decide_eq_true_iff],x2⟩,x1⟩
   by_cases c2:((S.dn p (2 ^ b) p.length &&& zs:Nat):Int)=0
   ·simp only[sz,simprocAttr,h0,h1,h2,h7,w1,w2,wl,c1,rt,z2,q2,ci,kC,hsh,kD,hand,c2]
    rw[fail fun h=>hAn.1 (by omega) (h.1 hcc)]
   ·simp only[sz,simprocAttr,h0,h1,h2,h7,w1,w2,wl,c1,rt,z2,q2,ci,kC,hsh,kD,hand,c2]
    refine ⟨_,?_,i+1,rfl,by omega,by omega,by simp[St,sx,h0,h1,h2],next ⟨fun _=>Classical.byContradiction fun h=>c2 (by have:=hAn.2 h;omega),fun h=>absurd hcc h⟩⟩
    omega
  | false =>
   have hcc:¬(Eg p a b/\Eg p c b):=fun h=>by
    have:((Par p b).testBit a&&(Par p b).testBit c)=true:=by rw[Bool.and_eq_true];exact h
    rw[hcol] at this;cases this
   rw[hcol] at kC
   cases hzb:zs.testBit b with
   | true =>
    rw[hzb] at kI
    simp only[sz,simprocAttr,h0,h1,h2,h7,w2,wl,c1,rt,z2,q2,ci,kC,kI]
    rw[fail fun h=>h.2 hcc hzb]
   | false =>
    rw[hzb] at kI
    simp only[sz,simprocAttr,h0,h1,h2,h7,w2,wl,c1,rt,z2,q2,ci,kC,kI]
    refine ⟨_,?_,i+1,rfl,by omega,by omega,by simp[St,sx,h0,h1,h2],next ⟨fun h=>absurd h hcc,fun _ h=>by have h:zs.testBit b=true:=h;rw[hzb] at h;cases h⟩⟩
    omega
 ·have c1:¬((i+1:Nat):Int)<(tr.length:Int):=by omega
  simp only[sz,simprocAttr,h1,h7,w2,wl,c1,js]
  rw[oT.2 (zO.2 fun k u v w a1 e1 e2 e3=>hall k u v w a1 (by have:=(List.getElem?_eq_some_iff.1 e3).1;omega) e1 e2 e3)]
theorem B5 {p:List Nat}{s j y:Nat}(hy:p[j]?=some y):S.wo (p.take (j+1)) s=S.wo (p.take j) s++[y ^^^ (y &&& s)]:=by
 rw[List.take_add_one,hy,S.wo,S.wo,List.map_append];rfl
theorem jZ {d k:Nat}{g:G}{P:Nat->Prop}{v:AV}{p:List Nat}{s:Nat}(hd:0<d)(hv:SlR P k g.h p v)(n8:p.length<=8)(hs:s<18446744073709551616) :
  ∃r,ap C0 d N.an [v,.int .u64 (s:Int)] g=.val r/\WoV p s NoP 0 .nil r:=by
 obtain ⟨v',e,r1⟩:=bY hv d
 have hp:=bf hv
 have rt:=fun h=>(r1 h).nats
 rw[lW]
 refine fu nb (xs:=[v',.int .u64 (s:Int)]) (by simp only[aA,e,aW]) (by simp[fN]) (dw _) (by decide) hd ?_
 simp only[sz,simprocAttr,fN,gH]
 refine eT hv.1 (r1 .nil).len (fun j t df g=>df=[]/\tat t 1=.int .u64 (s:Int)/\∃u,tat t 5=u/\Own g 0 u 1 ((S.wo (p.take j) s).map cu)) ⟨rfl,by simp[sx],.nils,by simp[sx],.inl ⟨rfl,by simp[S.wo]⟩⟩ (by simp[sx]) (by simp[sx]) (by decide)
  (by rintro j t df g v s (rfl | rfl | rfl | rfl | rfl | rfl | rfl)<;>simp[sx]) ?_ ?_
 ·rintro j t df g hj ⟨rfl,h1,u,h5,hO⟩ h6 h0
  obtain ⟨y,hy,-,hm⟩:=br hj
  have hyl:=hp y hm
  have z1:j<(p.map cu).length:=by simpa using hj
  have z2:(p.map cu)[j]?=some (cu y):=by rw[List.getElem?_map,hy];rfl
  simp only[sz,simprocAttr,h0,h1,h5,h6,rt,z1,z2,cu,gw y s hyl hs]
  refine dT (new:=[cu (y ^^^ (y &&& s))]) (hO.step (Fr.new _ _)) (by simp[sx,sy,cu]) (by simp) (by simp[el,S.wo];omega) fun v2 g2 hv2 n2 f2 _ l2=>?_
  simp only[sz,simprocAttr,h0,h1,h6]
  exact ⟨_,rfl,by rw[B5 hy,List.map_append];exact hv2⟩
 ·rintro t df g ⟨rfl,h1,u,h5,hO⟩ -
  simp only[sz,simprocAttr,gu,h5]
  rw[List.take_length] at hO
  exact ⟨_,aK.2 ⟨_,rfl,hO.natsV (by rw[gQ];omega) fun y hy=>by
   obtain ⟨z,hz,rfl⟩:=List.mem_map.1 hy
   exact pr (hp z hz)⟩⟩
def Di (p:List Nat)(z y m:Nat):Prop:=∀{d k:Nat} {g:G} {P:Nat->Prop} {v:AV} {x:Nat},0<d->SlR P k g.h p v->x<p.length->2 ^ p.length - S.up p (Par p x) p.length<=m ->
 ap C0 d N.am [v,.int .i64 (x:Int),.int .i64 (y:Int),.int .u64 (z:Int)] g=.val (.bool (S.aB p z y x))
theorem x_ {p:List Nat}{z y:Nat}(hG:GOk p)(hz:z<2 ^ p.length)(hzy:z.testBit y=false):∀m,Di p z y m:=by
 intro m
 induction m with
 | zero =>
  intro d k g P v x hd hv hx hm
  have:=pR hG.hp (jn hG.hp (v:=x)) p.length
  omega
 | succ m ih =>
  intro d k g P v x hd hv hx hm
  obtain ⟨v',e,r1⟩:=bY hv d
  have n8:=hG.l8
  have h256:=iU n8
  have rt:=fun h=>(r1 h).nats
  have hnz:¬Bt z y:=by rw[Bt,hzy];decide
  have yes:∀v,Eg p x v->(v=y\/¬Bt z v/\Psn p z y v)->S.aB p z y x=true:=fun v h1 h2=>by
   exact Cx ((ug hnz).2 ⟨v,h1,h2⟩)
  rw[mC]
  refine cG oP (xs:=[v',.int .i64 (x:Int),.int .i64 (y:Int),.int .u64 (z:Int)]) (by simp only[aA,e,aW]) (by simp[gF]) hd ?_
  simp only[sz,simprocAttr,gF,hM]
  refine eT hv.1 (r1 .nil).len (fun j t df g=>df=[]/\St t [(1,.int .i64 (x:Int)),(2,.int .i64 (y:Int)),(3,.int .u64 (z:Int))]/\∀i,i<j->¬(Eg p x i/\(i=y\/¬Bt z i/\Psn p z y i))) ⟨rfl,by simp[St,sx],by simp⟩ (by simp[sx]) (by simp[sx]) (by decide)
   (by rintro j t df g v s (rfl | rfl | rfl | rfl | rfl | rfl | rfl) ⟨a1,⟨b1,b2,b3,-⟩,a2⟩<;>exact ⟨a1,by simp[St,sx,b1,b2,b3],a2⟩) ?_ ?_
  ·rintro j t df g hj ⟨rfl,⟨h1,h2,h3,-⟩,hno⟩ h9 h0
   obtain ⟨w,hw,-,hmw⟩:=br hj
   have hpj:Par p j=w:=by simp[Par,hw]
   have hwl:=hG.hp w hmw
   have z1:j<(p.map cu).length:=by simpa using hj
   have z2:(p.map cu)[j]?=some (cu w):=by rw[List.getElem?_map,hw];rfl
   have ki:∀g,ap C0 (d+1) N.aa [.int .u64 (w:Int),.int .i64 (x:Int)] g=.val (.bool (w.testBit x)):=fun g=>by rw[iN (Nat.succ_pos d) (by omega) (by omega),jQ]
   have kz:∀g,ap C0 (d+1) N.aa [.int .u64 (z:Int),.int .i64 (j:Int)] g=.val (.bool (z.testBit j)):=fun g=>by rw[iN (Nat.succ_pos d) (by omega) (by omega),jQ]
   have next:¬(Eg p x j/\(j=y\/¬Bt z j/\Psn p z y j))->∀i,i<j+1->¬(Eg p x i/\(i=y\/¬Bt z i/\Psn p z y i)):=fun h i hi=>by
    by_cases c:i=j
    ·subst c;exact h
    ·exact hno i (by omega)
   cases hb:w.testBit x with
   | false =>
    simp only[sz,simprocAttr,h0,h1,h2,h3,h9,rt,z1,z2,cu,ki,hb]
    exact ⟨by simp[St,sx,h1,h2,h3],next fun h=>by have:=h.1;rw[Eg,hpj,hb] at this;cases this⟩
   | true =>
    have he:Eg p x j:=by rw[Eg,hpj];exact hb
    by_cases c:j=y
    ·have:=yes j he (.inl c)
     have c':decide ((j:Int)=(y:Int))=true:=decide_eq_true (by omega)
     simp only[sz,simprocAttr,h0,h1,h2,h3,h9,rt,z1,z2,cu,ki,hb,c',this]
    ·have c':decide ((j:Int)=(y:Int))=false:=decide_eq_false (by omega)
     cases hzb:z.testBit j with
     | true =>
      simp only[sz,simprocAttr,h0,h1,h2,h3,h9,rt,z1,z2,cu,ki,hb,c',kz,hzb]
      exact ⟨by simp[St,sx,h1,h2,h3],next fun h=>h.2.elim c fun h'=>h'.1 hzb⟩
     | false =>
      have hrk:=sZ hG.hp hG.ac x j he
      have kp:∀g,ap C0 (d+1) N.am [v',.int .i64 (j:Int),.int .i64 (y:Int),.int .u64 (z:Int)] g=.val (.bool (S.aB p z y j)):=fun g=>ih (Nat.succ_pos d) (r1 g.h) hj (by omega)
      cases hpas:S.aB p z y j with
      | true =>
       have:=yes j he (.inr ⟨by rw[Bt,hzb];decide,D0 hpas⟩)
       simp only[sz,simprocAttr,h0,h1,h2,h3,h9,rt,z1,z2,cu,ki,hb,c',kz,hzb,kp,hpas,this]
      | false =>
       simp only[sz,simprocAttr,h0,h1,h2,h3,h9,rt,z1,z2,cu,ki,hb,c',kz,hzb,kp,hpas]
       exact ⟨by simp[St,sx,h1,h2,h3],next fun h=>h.2.elim c fun h'=>D1 hpas h'.2⟩
  ·rintro t df g ⟨rfl,-,hno⟩ -
   have:S.aB p z y x=false:=by
    refine DK fun h=>?_
    obtain ⟨v,h1,h2⟩:=(ug hnz).1 h
    exact hno v (jq hG.hp h1).2 ⟨h1,h2⟩
   simp only[sz,simprocAttr,ie,this]
def S.aI (n:Nat)(x y:Int):Bool:=decide (0<=x/\x<n/\0<=y/\y<n/\x≠y)
theorem tS {d n:Nat}{g:G}{x y:Int}(hd:0<d):ap C0 d N.aP [.int .i64 (n:Int),.int .i64 x,.int .i64 y] g=.val (.bool (S.aI n x y)):=by
 rw[kh]
 refine cG lJ (xs:=[.int .i64 (n:Int),.int .i64 x,.int .i64 y]) (by simp only[aA,aW]) (by simp[aV]) hd ?_
 have no:¬(0<=x/\x<n/\0<=y/\y<n/\x≠y)->S.aI n x y=false:=fun h=>decide_eq_false h
 by_cases c1:0<=x
 ·by_cases c2:x<n
  ·by_cases c3:0<=y
   ·by_cases c4:y<n
    ·by_cases c5:x=y
     ·have:=no (by omega)
      have c':decide (x=y)=true:=decide_eq_true c5
      simp only[sz,simprocAttr,aV,this,c1,c2,c3,c4,c']
     ·have:S.aI n x y=true:=decide_eq_true ⟨c1,c2,c3,c4,c5⟩
      simp only[sz,simprocAttr,aV,this,c1,c2,c3,c4,c5]
    ·have:=no (by omega)
     simp only[sz,simprocAttr,aV,this,c1,c2,c3,c4]
   ·have:=no (by omega)
    simp only[sz,simprocAttr,aV,this,c1,c2,c3]
  ·have:=no (by omega)
   simp only[sz,simprocAttr,aV,this,c1,c2]
 ·have:=no (by omega)
  simp only[sz,simprocAttr,aV,this,c1]
theorem Bn (a b c d e f g:AV):bw 0 [a,b,c,d,e,f,g] .nil=co (co (co (co (co (co (co .nil 0 a) 1 b) 2 c) 3 d) 4 e) 5 f) 6 g:=rfl
theorem yN {C:Cfg}{d:Nat}{r:List SR}{t:T}{g:G}{K:AV->G->Prop}(h:mV r t g fun vs=>K (dG vs) g):lM C d r t [] g K:=by
 unfold lM
 have:cH (I C) d [] g=some g:=rfl
 rw[this];exact h
def qa:SC:=.seq (.feet [0,0,2,6,15,31] [oL 21 3,oF 22 0 7,oL 23 22,o 24 (.bin .shl (.k (.int .u64 1)) (.t 23)),o 25 (.bin .or (.t 21) (.t 24)),oz (.store 1 (.t 3) (.t 25))]) (sQ [oF 26 1 4,oL 27 26,oF 28 0 7,oL 29 28,oX 30 27 29,oL 31 30,o 32 (.call N.ae [.t 31])] (.blk 0 (.rng 74 (.t 32) [33] a_ ba)))
theorem Bd:dh=.seq (sQ [oL 10 1,o 11 (.load true 2 (.t 7)),o 12 (.raw (.lookup 192 (.tmp 10) (.tmp 11) false))] (.cond (.t 12) (.ret) (.skip))) (sQ [oL 13 1,o 14 (.load true 2 (.t 7)),oz (.raw (.mapUpdate 192 (.tmp 13) (.tmp 14) (.const (.bool true))))] (.seq (sQ [oL 15 2,oF 16 0 7,oL 17 16,o 18 (.bin .shr (.t 15) (.t 17)),o 19 (.bin .and (.t 18) (.k (.int .u64 1))),o 20 (.bin .eql (.t 19) (.k (.int .u64 0)))] (.cond (.t 20) qa (.skip))) a8)):=rfl
theorem DE {p c:List Nat}{pa ch:AV}{Zs:Nat}{Gd:Nat×Bool->Prop}{d k q v:Nat}{dn:Bool}{L:List (Nat×Bool)}{Q:QT}{t:T}{g:G}(hd:0<d)(hG:GrI p c pa ch Zs)(hv:ur p pa ch Zs Gd d k)(hk:S.aG p.length (L++[(v,dn)])<=k)(hvn:v<p.length)(hnz:¬Bt Zs v)
  (hg:∀u,Eg p v u->Gd (u,true)) (hL:∀s∈L++[(v,dn)],Gd s) (hX:∀h':H,(∀i,i<7->i≠4->h'.get i=g.h.get i)->h'.get 4=.cells 1 [[.int .u64 (S.aa (i_ (Bt Zs) (L++[(v,dn)])) p.length:Int)]] 0 false false->VI p pa ch Zs (L++[(v,dn)]) h') (hr4:g.h.get 4=.cells 1 [[.int .u64 (S.aa (i_ (Bt Zs) L) p.length:Int)]] 0 false false) (hg0:g.h.get 0=.cells 2 [[pa,ch]] 0 false false) (ht:St t (LVs q)) (hq:g.h.get q=.cells 2 [[.int .i64 (v:Int),.bool dn]] 0 false false) (hq7:7<=q) (hqn:q<g.nx)
  (fin:∀t' g' L' m,St t' (LVs q)->VI p pa ch Zs L' g'.h->g.nx<=g'.nx->g.nx<=m->m<g'.nx->g'.h.get m=.dfr true->(∀i,7<=i->i<g.nx->g'.h.get i=g.h.get i)->Dst (RX p Zs) Gd (L++[(v,dn)]) L'->(∀u,Eg p v u->(u,true)∈L')->Q .norm t' [.mark m] g'):wp C0 d none qa Q t [] g:=by
 obtain ⟨h1,h2,h3,h4,h5,h6,h7,-⟩:=ht
 have h256:=iU hG.n8
 have hn8:=hG.n8
 have lq1:aL (.cells 2 [[.int .i64 (v:Int),.bool dn]] 0 false false) 0 0 false 1 0=.val (.int .i64 (v:Int)):=rfl
 have lg2:aL (.cells 2 [[pa,ch]] 0 false false) 0 0 false 1 1=.val ch:=rfl
 have hR:=ir (i_ (Bt Zs) L) p.length
 have hor:=fp (S.aa (i_ (Bt Zs) L) p.length) (S.an v) (by omega) (jK v)
 rw[cP (by omega),<-z9 (d:=dn) hvn hnz] at hor
 have hsh:aX .shl (.int .u64 1) (.int .i64 (v:Int))=.val (.int .u64 ((2 ^ v:Nat):Int)):=by rw[aG,cP (by omega)]
 have hcv:c[v]?=some (c[v]?.getD 0):=by rw[List.getElem?_eq_getElem (by rw[hG.cl];exact hvn)];rfl
 have u1:v<(c.map cu).length:=by rw[List.length_map,hG.cl];exact hvn
 have u2:(c.map cu)[v]?=some (cu (c[v]?.getD 0)):=by rw[List.getElem?_map,hcv];rfl
 have hyc:=hG.yc (by omega)
 have kM:=fun g=>ja (d:=d) (s:=c[v]?.getD 0) (g:=g) hd
 have hcm:∀u,u∈S.ah (c[v]?.getD 0)↔Eg p v u:=fun u=>by rw[kg (hG.cb8 v),hG.cb v u]
 unfold qa
 refine vB (P:=fun t' df' g'=>df'=[]/\g.nx<=g'.nx/\(∀i,i≠4->g'.h.get i=g.h.get i)/\g'.h.get 4=.cells 1 [[.int .u64 (S.aa (i_ (Bt Zs) (L++[(v,dn)])) p.length:Int)]] 0 false false/\St t' (LVs q)) ?_ ?_
 ·simp only[sz,simprocAttr,sf,h3,h7,hq,lq1,hr4,hsh,hor]
  refine ⟨?_,by omega,fun i hi=>by simp[H.get_put,hi],by simp[St,LVs,sx,h1,h2,h3,h4,h5,h6,h7]⟩
  simp only[List.reverse_cons,List.reverse_nil,List.nil_append,List.cons_append]
  exact md [false,false,false,false,false,true] [] (by simp[All2,au,aS]) (by decide) (by simp)
 clear h1 h2 h3 h4 h5 h6 h7
 rintro t df g1 ⟨rfl,n1,f1,r1,h1,h2,h3,h4,h5,h6,h7,-⟩
 have hI:=hX g1.h (fun i _ hi=>f1 i hi) r1
 have hq1:g1.h.get q=.cells 2 [[.int .i64 (v:Int),.bool dn]] 0 false false:=by rw[f1 q (by omega),hq]
 have g01:g1.h.get 0=.cells 2 [[pa,ch]] 0 false false:=by rw[f1 0 (by omega),hg0]
 simp only[sz,simprocAttr,h4,h7,g01,lg2,hq1,lq1,hG.rc,u1,u2,cu,hyc,kM]
 refine y_ (q:=q) (L:=L++[(v,dn)]) (set:=c[v]?.getD 0) hd hv hk (hG.cb8 v) (fun u hu=>hg u ((hcm u).1 hu)) hL hI (by omega) (by simp[St,LVs,sx,h1,h2,h3,h4,h5,h6,h7]) (by simp[sx]) ?_
 intro g' L' hI' hn' hdf hfr hD hall
 simp only[sz,simprocAttr]
 exact fin _ g' L' g1.nx (by simp[St,LVs,sx,h1,h2,h3,h4,h5,h6,h7]) hI' (by omega) n1 (by omega) hdf (fun i a b=>by rw[hfr i a (by omega),f1 i (by omega)]) hD fun u hu=>hall u ((hcm u).2 hu)
theorem AX {p c:List Nat}{pa ch:AV}{Zs:Nat}{Gd:Nat×Bool->Prop}{d:Nat}(hd:0<d)(hG:GrI p c pa ch Zs)(hgc:∀s t,Gd s->RX p Zs s t->Gd t)(hgl:∀s,Gd s->s.1<p.length):∀k,ur p pa ch Zs Gd d k:=by
 intro k
 induction k using Nat.strongRecOn with
 | _ k ih =>
  rintro L ⟨v,dn⟩ g K D hk hs hL hn hI kk
  have hvn:v<p.length:=hgl _ hs
  have h256:=iU hG.n8
  have hz:=hG.zs
  have hn8:=hG.n8
  rw[Bp]
  refine BA g9 (by simp[bZ]) ?_
  simp only[sz,simprocAttr,bZ,sk,Bn]
  obtain ⟨g1,hg1⟩:∃g1,g1=g.new (.cells 2 [[.int .i64 (v:Int),.bool dn]] 0 false false):=⟨_,rfl⟩
  rw[<-hg1]
  have n1:g1.nx=g.nx+1:=by rw[hg1];simp
  have f1:∀i,i<g.nx->g1.h.get i=g.h.get i:=fun i hi=>by rw[hg1];simp[H.get_put,show ¬i=g.nx by omega]
  have hq:g1.h.get g.nx=.cells 2 [[.int .i64 (v:Int),.bool dn]] 0 false false:=by rw[hg1];simp[H.get_put]
  have hI1:VI p pa ch Zs L g1.h:=hI.fr fun i hi=>f1 i (by omega)
  clear hg1
  have lq:aL (.cells 2 [[.int .i64 (v:Int),.bool dn]] 0 false false) 0 0 true 2 0=.val (sk (v,dn)):=rfl
  have lq1:aL (.cells 2 [[.int .i64 (v:Int),.bool dn]] 0 false false) 0 0 false 1 0=.val (.int .i64 (v:Int)):=rfl
  have lg2:aL (.cells 2 [[pa,ch]] 0 false false) 0 0 false 1 1=.val ch:=rfl
  rw[Bd]
  by_cases hin:(v,dn)∈L
  ·simp only[sz,simprocAttr,hI1.p,hq,lq]
   rw[A8 (id:=3) (s:=(v,dn)) (L:=L) (by simp[sx]) (by simp[sx]) hI1.m,decide_eq_true hin]
   simp only[sz,simprocAttr]
   exact kk g1 L hI1 (by omega) (fun i _ hi=>f1 i hi) (Dst.refl hL) hin
  ·have hlt:=B9 (n:=p.length) hin hvn
   obtain ⟨L1,hL1⟩:∃L1,L1=L++[(v,dn)]:=⟨_,rfl⟩
   rw[<-hL1] at hlt
   have hgL1:∀s∈L1,Gd s:=fun s hs'=>by
    rw[hL1] at hs'
    rcases List.mem_append.1 hs' with h | h
    ·exact hL s h
    ·rw[List.mem_singleton.1 h];exact hs
   refine vB (P:=fun t' df' g'=>df'=[]/\g'=g1/\St t' (LVs g.nx)) ?_ ?_
   ·simp only[sz,simprocAttr,hI1.p,hq,lq]
    rw[A8 (id:=3) (s:=(v,dn)) (L:=L) (by simp[sx]) (by simp[sx]) hI1.m,decide_eq_false hin]
    simp only[sz,simprocAttr]
    simp[St,LVs,sx]
   rintro t df g2 ⟨rfl,hg,h1,h2,h3,h4,h5,h6,h7,-⟩
   rw[hg];clear hg
   refine kw (P:=fun t' df' g'=>df'=[]/\g'.nx=g1.nx/\(∀i,i≠3->g'.h.get i=g1.h.get i)/\g'.h.get 3=.map (bcl L1)/\St t' (LVs g.nx)) ?_ ?_
   ·simp only[sz,simprocAttr,h1,h7,hI1.p,hq,lq]
    rw[D9 (id:=3) (s:=(v,dn)) (L:=L) (by simp[sx]) (by simp[sx]) hI1.m hin]
    simp only[sz,simprocAttr]
    exact ⟨fun i hi=>by simp[H.get_put,hi],by simp[H.get_put,hL1],by simp[St,LVs,sx,h1,h2,h3,h4,h5,h6,h7]⟩
   clear h1 h2 h3 h4 h5 h6 h7
   rintro t df g2 ⟨rfl,n2,f2,m2,h1,h2,h3,h4,h5,h6,h7,-⟩
   have f2':∀i,7<=i->i<g1.nx->g2.h.get i=g1.h.get i:=fun i a b=>f2 i (by omega)
   have hq2:g2.h.get g.nx=.cells 2 [[.int .i64 (v:Int),.bool dn]] 0 false false:=by rw[f2 _ (by omega),hq]
   have z2:g2.h.get 1=.cells 1 [[.int .u64 (Zs:Int)]] 0 false false:=by rw[f2 1 (by omega),hI1.z]
   have r2:g2.h.get 4=.cells 1 [[.int .u64 (S.aa (i_ (Bt Zs) L) p.length:Int)]] 0 false false:=by rw[f2 4 (by omega),hI1.r]
   have hI2:S.aa (i_ (Bt Zs) L) p.length=S.aa (i_ (Bt Zs) L1) p.length->VI p pa ch Zs L1 g2.h:=fun e =>
    ⟨by rw[f2 0 (by omega),hI1.g0],z2,by rw[f2 2 (by omega),hI1.a],m2,by rw[<-e,r2],by rw[f2 5 (by omega),hI1.p],by rw[f2 6 (by omega),hI1.v]⟩
   have zq:Zs<18446744073709551616:=by omega
   refine vB (P:=fun t' df' g'=>(df'=[]\/∃m,df'=[.mark m]/\g'.h.get m=.dfr true/\g1.nx<=m/\m<g'.nx)/\St t' (LVs g.nx)/\g1.nx<=g'.nx/\(∀i,7<=i->i<g1.nx->g'.h.get i=g1.h.get i)/\∃L2,VI p pa ch Zs L2 g'.h/\Dst (RX p Zs) Gd L1 L2/\∀u,RX p Zs (v,dn) (u,true)->(u,true)∈L2) ?_ ?_
   ·cases hb:Zs.testBit v with
    | true =>
     have hI3:=hI2 (by rw[hL1,B3 (show Bt Zs v from hb)])
     simp only[sz,simprocAttr,h2,h7,hq2,lq1,z2,aJ _ _ _ zq,li zq,mK,hb]
     exact ⟨.inl trivial,by simp[St,LVs,sx,h1,h2,h3,h4,h5,h6,h7],by omega,f2',L1,hI3,Dst.refl hgL1,fun u hu=>by cases hu with | dn hz' _=>exact absurd hb hz'⟩
    | false =>
     have hnz:¬Bt Zs v:=fun h=>by have h:Zs.testBit v=true:=h;rw[hb] at h;cases h
     have hR:=ir (i_ (Bt Zs) L) p.length
     have hor:=fp (S.aa (i_ (Bt Zs) L) p.length) (S.an v) (by omega) (jK v)
     rw[cP (by omega),<-z9 (d:=dn) hvn hnz,<-hL1] at hor
     have hsh:aX .shl (.int .u64 1) (.int .i64 (v:Int))=.val (.int .u64 ((2 ^ v:Nat):Int)):=by rw[aG,cP (by omega)]
     have hcv:c[v]?=some (c[v]?.getD 0):=by rw[List.getElem?_eq_getElem (by rw[hG.cl];exact hvn)];rfl
     have u1:v<(c.map cu).length:=by rw[List.length_map,hG.cl];exact hvn
     have u2:(c.map cu)[v]?=some (cu (c[v]?.getD 0)):=by rw[List.getElem?_map,hcv];rfl
     have hyc:=hG.yc (by omega)
     have kM:=fun g=>ja (d:=d) (s:=c[v]?.getD 0) (g:=g) hd
     simp only[sz,simprocAttr,h2,h7,hq2,lq1,z2,aJ _ _ _ zq,li zq,mK,hb]
     rw[hL1] at hgL1 m2 hlt ⊢
     refine DE (q:=g.nx) (L:=L) (k:=S.aG p.length (L++[(v,dn)])) hd hG (ih _ (by omega)) (Nat.le_refl _) hvn hnz (fun u hu=>hgc (v,dn) (u,true) hs (.dn hnz hu)) hgL1 (fun h' hh hr=>⟨by rw[hh 0 (by omega) (by omega),f2 0 (by omega),hI1.g0],by rw[hh 1 (by omega) (by omega),z2],by rw[hh 2 (by omega) (by omega),f2 2 (by omega),hI1.a],by rw[hh 3 (by omega) (by omega),m2],hr,by rw[hh 5 (by omega) (by omega),f2 5 (by omega),hI1.p],by rw[hh 6 (by omega) (by omega),f2 6 (by omega),hI1.v]⟩) r2 (by rw[f2 0 (by omega),hI1.g0]) (by simp[St,LVs,sx,h1,h2,h3,h4,h5,h6,h7]) hq2 hn (by omega) ?_
     intro t' g' L' m ht' hI' n' hm1 hm2 hdf hfr hD hall
     exact ⟨rfl,.inr ⟨m,rfl,hdf,by omega,hm2⟩,ht',by omega,fun i a b=>by rw[hfr i a (by omega),f2' i a b],L',hI',hD,fun u hu=>hall u (by cases hu with | dn _ e=>exact e)⟩
   ·rintro t df g3 ⟨hdf,ht,n3,f3,L2,hI3,hD,hch⟩
    refine Do (q:=g.nx) (v:=v) (dn:=dn) (L:=L2) (k:=S.aG p.length L2) hd hG (ih _ (by have:=oW (n:=p.length) hD.pre;omega)) (Nat.le_refl _) hvn (fun u hu=>hgc (v,dn) (u,false) hs hu) hD.good hI3 ht (by rw[f3 _ hn (by omega),hq]) hn (by omega) ?_
    rintro e t' df' g4 L3 he hdf' hI4 n4 f4 hD2 hpa
    have hfin:Dst (RX p Zs) Gd L L3/\(v,dn)∈L3:=by
     have hD3:=hD.tr hD2
     rw[hL1] at hD3
     refine hD3.visit fun u hu=>?_
     obtain ⟨w,b⟩:=u
     cases b with
     | true=>exact hD2.pre _ (hch w hu)
     | false=>exact hpa w hu
    have hfr:∀i,7<=i->i<g.nx->g4.h.get i=g.h.get i:=fun i a b=>by rw[f4 i a (by omega),f3 i a (by omega),f1 i b]
    have hend:fnQ C0 d [] K .ret t' df' g4=lM C0 d [] t' df' g4 K:=rfl
    have hend2:fnQ C0 d [] K .norm t' df' g4=lM C0 d [] t' df' g4 K:=rfl
    have goal:lM C0 d [] t' df' g4 K:=by
     have one:∀g5:G,g5.nx=g4.nx->(∀i,i<7->g5.h.get i=g4.h.get i)->(∀i,i<g.nx->g5.h.get i=g4.h.get i)->K (.tup []) g5:=fun g5 n5 f5 f6 =>
      kk g5 L3 (hI4.fr f5) (by omega) (fun i a b=>by rw[f6 i b,hfr i a b]) hfin.1 hfin.2
     rcases hdf with rfl | ⟨m,rfl,hm,hm1,hm2⟩
     ·rcases hdf' with rfl | ⟨m2,rfl,hm2,hm3⟩
      ·exact yN (one g4 rfl (fun _ _=>rfl) fun _ _=>rfl)
      ·exact nC hm2 (one _ (by simp) (fun i hi=>by simp[H.get_put,show ¬i=m2 by omega]) fun i hi=>by simp[H.get_put,show ¬i=m2 by omega])
     ·have hm4:g4.h.get m=.dfr true:=by rw[f4 m (by omega) hm2,hm]
      rcases hdf' with rfl | ⟨m2,rfl,hm5,hm3⟩
      ·exact nC hm4 (one _ (by simp) (fun i hi=>by simp[H.get_put,show ¬i=m by omega]) fun i hi=>by simp[H.get_put,show ¬i=m by omega])
      ·exact vH hm5 hm4 (by omega) (one _ (by simp) (fun i hi=>by simp[H.get_put,show ¬i=m by omega,show ¬i=m2 by omega]) fun i hi=>by simp[H.get_put,show ¬i=m by omega,show ¬i=m2 by omega])
    rcases he with rfl | rfl
    ·rw[hend];exact goal
    ·rw[hend2];exact goal
def S.aq (p:List Nat)(xs zs:Nat):Nat:=S.aa (Re (Eg p) (Bt zs) (Bt xs)) p.length
structure Chl (p c:List Nat):Prop where
 cl:c.length=p.length
 cb:∀v u,(c[v]?.getD 0).testBit u=true↔Eg p v u
theorem Cb (Z:Nat->Prop)(n:Nat):S.aa (i_ Z []) n=0:=by
 refine Nat.eq_of_testBit_eq fun i=>?_
 rw[Nat.zero_testBit]
 cases h:(S.aa (i_ Z []) n).testBit i with
 | false=>rfl
 | true =>
  obtain ⟨-,⟨d,hd⟩,-⟩:=hY.1 h
  cases hd
theorem BK {p:List Nat}{Z:Nat->Prop}{xs v:Nat}{b:Bool}(hp:∀x∈p,x<2 ^ p.length)(hx:xs<2 ^ p.length)(h:Rs (Eg p) Z (Bt xs) v b):v<p.length:=by
 cases h with
 | st h=>exact od hx h
 | dn _ _ e=>exact (jq hp e).2
 | up _ _ e=>exact (jq hp e).1
set_option maxRecDepth 5000 in
theorem zp {d xs zs:Nat}{g:G}{v:AV}{p c:List Nat}(hd:0<d)(hm:Agg ((p,c):List Nat×List Nat) NoP 0 g.h v)(hp:∀x∈p,x<2 ^ p.length)(h1:1<=p.length)(n8:p.length<=8)(hc:Chl p c)(hxs:xs<2 ^ p.length)(hzs:zs<2 ^ p.length) :
  ap C0 d N.aJ [v,.int .u64 (xs:Int),.int .u64 (zs:Int)] g=.val (.int .u64 (S.aq p xs zs:Int)):=by
 have e0:=p_ d hm
 obtain ⟨cs,rfl,hcs⟩:=hm
 obtain ⟨_,_,rfl,ha,hb⟩:=eP.1 hcs
 obtain ⟨pa,rfl,hpa⟩:=aK.1 ha
 obtain ⟨ch,rfl,hch⟩:=aK.1 hb
 have h256:=iU n8
 have hpa:SlR NoP 0 .nil p pa:=hpa.tree (Nat.le_refl 0)
 have hch:SlR NoP 0 .nil c ch:=hch.tree (Nat.le_refl 0)
 have rp:∀h,aw h 1 pa=some (p.map cu):=fun h=>(hpa.tree (h':=h) (Nat.le_refl 0):SlR NoP 0 h _ pa).nats
 have rc:∀h,aw h 1 ch=some (c.map cu):=fun h=>(hch.tree (h':=h) (Nat.le_refl 0):SlR NoP 0 h _ ch).nats
 have hG:GrI p c pa ch zs:=⟨hp,n8,rp,rc,nl hpa,fun h=>nl hch (by rw[hc.cl];exact h),hc.cl,hc.cb,hzs⟩
 have lp:=hpa.len
 have lg1:aL (.cells 2 [[pa,ch]] 0 false false) 0 0 false 1 0=.val pa:=rfl
 have hlt:∀x∈p,x<18446744073709551616:=fun x hx=>by have:=hp x hx;omega
 rw[g_]
 refine eN iM (xs:=[.agg ([pa]++[ch]),.int .u64 (xs:Int),.int .u64 (zs:Int)]) (by simp only[aA,e0,aW]) (by simp[cC]) hd ?_
 simp only[sz,simprocAttr,cC,dH,List.cons_append,List.nil_append,lg1,lp]
 have go:∀t g',St t [(1,.int .u64 (xs:Int)),(3,.hptr 0 0 0 0),(5,.hptr 1 0 0 0),(7,.hptr 2 0 0 0)]->g'.nx=3->g'.h.get 0=.cells 2 [[pa,ch]] 0 false false->g'.h.get 1=.cells 1 [[.int .u64 (zs:Int)]] 0 false false->g'.h.get 2=.cells 1 [[.int .u64 (S.up p zs p.length:Int)]] 0 false false ->
   wp C0 (d+1) none bh (fnQ C0 (d+1) [SR.tm 6] fun v _=>v=AV.int IntKind.u64 ↑(S.aq p xs zs)) t [] g':=by
  rintro t g1 ⟨t1,t3,t5,t7,-⟩ n1 g0 gz ga
  have xn:xs<256:=by omega
  have st1:∀g,gg (.cells 1 [[.nilm]] 0 false false) g 5 0 0 1 0 (.hmap 3)=.upd .undef (g.put 5 (.cells 1 [[.hmap 3]] 0 false false)):=fun g=>rfl
  have st2:∀g,gg (.cells 1 [[.nilf]] 0 false false) g 6 0 0 1 0 (.clo N.aM [] [.hptr 5 0 0 0,.hptr 1 0 0 0,.hptr 4 0 0 0,.hptr 0 0 0 0,.hptr 6 0 0 0,.hptr 2 0 0 0])=.upd .undef (g.put 6 (.cells 1 [[A3]] 0 false false)):=fun g=>rfl
  have kM:=fun g=>ja (d:=d+1) (s:=xs) (g:=g) (Nat.succ_pos d)
  simp only[sz,simprocAttr,bh,DF,t1,t3,t5,t7,kM,n1,st1,st2]
  obtain ⟨g2,hg2⟩:∃g2,g2=(((((((g1.new (AObj.map [])).new (AObj.cells 1 [[AV.int IntKind.u64 0]] 0 false false)).new (AObj.cells 1 [[AV.nilm]] 0 false false)).put 4 (AObj.cells 1 [[AV.int IntKind.u64 0]] 0 false false)).put 5 (AObj.cells 1 [[AV.hmap 3]] 0 false false)).new (AObj.cells 1 [[AV.nilf]] 0 false false)).put 6 (AObj.cells 1 [[A3]] 0 false false)):=⟨_,rfl⟩
  rw[<-hg2]
  have n2:g2.nx=7:=by rw[hg2];simp[n1]
  have hz0:S.aa (i_ (Bt zs) []) p.length=0:=Cb _ _
  have hI:VI p pa ch zs [] g2.h:=by
   rw[hg2]
   refine ⟨?_,?_,?_,?_,?_,?_,?_⟩
   ·simp[H.get_put,n1,g0]
   ·simp[H.get_put,n1,gz]
   ·simp[H.get_put,n1,ga]
   ·simp[H.get_put,n1];rfl
   ·simp[H.get_put,n1,hz0]
   ·simp[H.get_put,n1]
   ·simp[H.get_put,n1]
  clear hg2 g0 gz ga
  have hgc:∀s t,Rs (Eg p) (Bt zs) (Bt xs) s.1 s.2->RX p zs s t->Rs (Eg p) (Bt zs) (Bt xs) t.1 t.2:=fun s t h1 h2=>Ca h1 h2
  have hgl:∀s:Nat×Bool,Rs (Eg p) (Bt zs) (Bt xs) s.1 s.2->s.1<p.length:=fun s h=>BK hp hxs h
  have hv:=AX (Gd:=fun s=>Rs (Eg p) (Bt zs) (Bt xs) s.1 s.2) (Nat.succ_pos d) hG hgc hgl (S.aG p.length [])
  refine rT (Nat.succ_pos d) xn (by simp[sx]) (by decide) (fun j h=>VJ p pa ch zs (fun s=>Rs (Eg p) (Bt zs) (Bt xs) s.1 s.2) [] false (S.ah xs) g2 j h) ?_ ⟨⟨[],hI,Dst.refl (fun s h=>by cases h),fun i v h=>absurd h (Nat.not_lt_zero i)⟩,fun _ _ _=>rfl⟩ ?_ ?_
  ·rintro j h h' hh ⟨⟨L1,i1,i2,i3⟩,f1⟩
   exact ⟨⟨L1,i1.fr fun i hi=>hh i (by omega),i2,i3⟩,fun i h1 h2=>by rw[hh i h2,f1 i h1 h2]⟩
  ·rintro j v g1 hj ⟨⟨L1,i1,i2,i3⟩,f1⟩ hn1
   simp only[sz,simprocAttr,dz]
   intro g3 hn3 hf3
   have i1':VI p pa ch zs L1 g3.h:=i1.fr fun i hi=>hf3 i (by omega)
   simp only[sz,simprocAttr,dx,i1'.v]
   refine hv L1 (v,false) g3 _ _ (oW i2.pre) (.st ((kg xn).1 (List.mem_of_getElem? hj))) i2.good (by omega) i1' fun g4 L2 j1 j2 j3 j4 j5=>?_
   simp only[sz,simprocAttr]
   refine ⟨j2,fun i a b=>j3 i (by omega) b,.inl ⟨rfl,⟨L2,j1,i2.tr j4,fun i u hi hu=>?_⟩,fun i a b=>?_⟩⟩
   ·by_cases e:i=j
    ·subst e
     rw[hj] at hu
     injection hu with hu
     subst hu
     exact j5
    ·exact j4.pre _ (i3 i u (by omega) hu)
   ·omega
  ·rintro g' ⟨⟨L1,i1,i2,i3⟩,f1⟩ hn' hdf
   have hall:∀x,Bt xs x->(x,false)∈L1:=fun x hx=>by
    obtain ⟨i,hi,e⟩:=List.mem_iff_getElem.1 ((kg xn).2 hx)
    exact i3 i x hi (by rw[List.getElem?_eq_getElem hi,e])
   have hval:S.aa (i_ (Bt zs) L1) p.length=S.aq p xs zs:=bS fun y _=>by
    constructor
    ·rintro ⟨⟨b,h⟩,hz⟩;exact ⟨⟨b,(wB i2 hall y b).1 h⟩,hz⟩
    ·rintro ⟨⟨b,h⟩,hz⟩;exact ⟨⟨b,(wB i2 hall y b).2 h⟩,hz⟩
   have hr:=i1.r
   rw[hval] at hr
   simp only[sz,simprocAttr,dy,hr]
   refine nC hdf ?_
   simp only[sz,simprocAttr]
 have go2:∀t df g',(df=[]/\St t [(1,.int .u64 (xs:Int)),(3,.hptr 0 0 0 0),(5,.hptr 1 0 0 0),(7,.hptr 2 0 0 0)]/\g'.nx=3/\g'.h.get 0=.cells 2 [[pa,ch]] 0 false false/\g'.h.get 1=.cells 1 [[.int .u64 (zs:Int)]] 0 false false/\g'.h.get 2=.cells 1 [[.int .u64 (S.up p zs p.length:Int)]] 0 false false) ->
   wp C0 (d+1) none bh (fnQ C0 (d+1) [SR.tm 6] fun v _=>v=AV.int IntKind.u64 ↑(S.aq p xs zs)) t df g':=by
  rintro t df g' ⟨rfl,a1,a2,a3,a4,a5⟩
  exact go t g' a1 a2 a3 a4 a5
 refine cM (m:=p.length) (by omega) (fun j t df g'=>df=[]/\St t [(1,.int .u64 (xs:Int)),(3,.hptr 0 0 0 0),(5,.hptr 1 0 0 0),(7,.hptr 2 0 0 0)]/\g'.nx=3/\g'.h.get 0=.cells 2 [[pa,ch]] 0 false false/\g'.h.get 1=.cells 1 [[.int .u64 (zs:Int)]] 0 false false/\g'.h.get 2=.cells 1 [[.int .u64 (S.up p zs j:Int)]] 0 false false)
  ⟨rfl,by simp[St,sx],by simp[sx],by simp[sx,H.get_put],by simp[sx,H.get_put],by simp[sx,H.get_put];rfl⟩ (by simp[sx]) (by simp[sx]) (by decide) ?_ ?_ ?_
 ·rintro j t df g v s hs ⟨a1,⟨b1,b2,b3,b4,-⟩,a3⟩
  refine ⟨a1,?_,a3⟩
  rcases hs with rfl | rfl | rfl<;>simp[St,sx, *]
 ·rintro j t df g hj ⟨rfl,⟨h1,h3,h5,h7,-⟩,n3,g0,gz,ga⟩ h19 h18
  have hup:=pR hp hzs j
  simp only[sz,simprocAttr,h3,g0,lg1,lp]
  simp only[dB,dA]
  refine cM (m:=p.length) (by omega) (fun i t df g'=>df=[]/\St t [(1,.int .u64 (xs:Int)),(3,.hptr 0 0 0 0),(5,.hptr 1 0 0 0),(7,.hptr 2 0 0 0),(18,.int .i64 (p.length:Int)),(19,.int .i64 (j:Int)),(23,pa)]/\g'.nx=3/\g'.h.get 0=.cells 2 [[pa,ch]] 0 false false/\g'.h.get 1=.cells 1 [[.int .u64 (zs:Int)]] 0 false false/\g'.h.get 2=.cells 1 [[.int .u64 (S.au p (S.up p zs j) i:Int)]] 0 false false)
   ⟨rfl,by simp[St,sx,h1,h3,h5,h7,h18,h19],n3,g0,gz,by rw[ga];rfl⟩ (by simp[sx]) (by simp[sx]) (by decide) ?_ ?_ ?_
  ·rintro j t df g v s hs ⟨a1,⟨b1,b2,b3,b4,b5,b6,b7,-⟩,a3⟩
   refine ⟨a1,?_,a3⟩
   rcases hs with rfl | rfl | rfl<;>simp[St,sx, *]
  ·rintro i t df g hi ⟨rfl,⟨h1,h3,h5,h7,h18,h19,h23,-⟩,n3,g0,gz,ga⟩ h25 h24
   have hr:=nN hp hup i
   obtain ⟨x,hx,-,hxm⟩:=br hi
   have u1:i<(p.map cu).length:=by simpa using hi
   have u2:(p.map cu)[i]?=some (cu x):=by rw[List.getElem?_map,hx];rfl
   have hxl:=hlt x hxm
   have hrl:S.au p (S.up p zs j) i<18446744073709551616:=by omega
   have us:=di p (S.up p zs j) i
   rw[kH,hx,Option.getD_some] at us
   simp only[sz,simprocAttr,h7,h23,h25,rp,u1,u2,cu,ga,aJ _ _ _ hrl,li hrl,Bl]
   cases hb:(S.au p (S.up p zs j) i).testBit i with
   | true =>
    rw[hb,if_pos rfl] at us
    simp only[sz,simprocAttr,h7,ga,fp _ _ hrl hxl]
    exact ⟨⟨by simp[St,sx,h1,h3,h5,h7,h18,h19,h23],by simp[n3],by simp[H.get_put,g0],by simp[H.get_put,gz],by simp[H.get_put];rw[us]⟩,h25,h24⟩
   | false =>
    rw[hb,if_neg (by decide)] at us
    simp only[sz,simprocAttr]
    exact ⟨⟨by simp[St,sx,h1,h3,h5,h7,h18,h19,h23],n3,g0,gz,by rw[us];exact ga⟩,h25,h24⟩
  ·rintro t df g ⟨rfl,⟨h1,h3,h5,h7,h18,h19,h23,-⟩,n3,g0,gz,ga⟩
   simp only[sz,simprocAttr]
   have ga2:=ga
   rw[<-fZ] at ga2
   exact ⟨⟨⟨h1,h3,h5,h7,trivial⟩,n3,g0,gz,ga2⟩,h19,h18⟩
 ·intro t df g h
  simp only[sz,simprocAttr]
  exact go2 t df g h
theorem Bq {d k2:Nat}{g:G}{P2:Nat->Prop}{v w:AV}{p c l:List Nat}(hd:0<d)(hm:Agg ((p,c):List Nat×List Nat) NoP 0 g.h v)(hw:SlR P2 k2 g.h l w)(n8:p.length<=8) :
  ap C0 d N.aw [v,w] g=.val (.bool (S.ay p.length l 0)):=by
 have e0:=p_ d hm
 obtain ⟨cs,rfl,hcs⟩:=hm
 obtain ⟨_,_,rfl,ha,hb⟩:=eP.1 hcs
 obtain ⟨pa,rfl,hpa⟩:=aK.1 ha
 obtain ⟨ch,rfl,hch⟩:=aK.1 hb
 obtain ⟨w',e2,r2⟩:=bY hw d
 have hlt:=bf hw
 have hl:=hw.1
 have hpa:SlR NoP 0 .nil p pa:=hpa.tree (Nat.le_refl 0)
 have lp:=hpa.len
 have wl:=(r2 .nil).len
 have lg1:aL (.cells 2 [[pa,ch]] 0 false false) 0 0 false 1 0=.val pa:=rfl
 rw[fR]
 refine cG gU (xs:=[.agg ([pa]++[ch]),w']) (by simp only[aA,e0,e2]) (by simp[bO]) hd ?_
 simp only[sz,simprocAttr,bO,cT,List.cons_append,List.nil_append,wl]
 simp only[cI]
 refine cM (m:=l.length) hl (fun j t df g=>df=[]/\g.h.get 0=.cells 2 [[pa,ch]] 0 false false/\∃a:Nat,a<18446744073709551616/\S.ay p.length (l.drop j) a=S.ay p.length l 0/\St t [(2,.hptr 0 0 0 0),(8,w'),(5,.int .u64 (a:Int))]) ⟨rfl,by simp[sx,H.get_put],0,by decide,rfl,by simp[St,sx]⟩ (by simp[sx]) (by simp[sx]) (by decide)
  (by rintro j t df g v s (rfl | rfl | rfl)<;>simp[sx,St]) ?_ ?_
 ·rintro j t df g hj ⟨rfl,g0,a,ha,hS,h2,h8,h5,-⟩ h10 h9
  obtain ⟨x,hx,-,hm⟩:=br hj
  have hxl:=hlt x hm
  have z1:j<(l.map cu).length:=by simpa using hj
  have z2:(l.map cu)[j]?=some (cu x):=by rw[List.getElem?_map,hx];rfl
  have rt:=fun h=>(r2 h).nats
  rw[yO hx] at hS
  by_cases c:x<2 ^ p.length
  ·by_cases c2:x &&& a=0
   ·simp only[sz,simprocAttr,h2,h5,h8,h10,g0,lg1,lp,rt,z1,z2,cu,aJ _ _ _ hxl,eF,c,bp x a hxl ha,c2,fp a x ha hxl]
    refine ⟨⟨a ||| x,wm ha hxl,?_,by simp[St,sx,h2,h8]⟩,h9⟩
    rw[<-hS,yJ c c2]
   ·simp only[sz,simprocAttr,h2,h5,h8,h10,g0,lg1,lp,rt,z1,z2,cu,aJ _ _ _ hxl,eF,c,bp x a hxl ha,show ¬((x &&& a:Nat):Int)=0 from by omega]
    rw[<-hS,Ai c2]
  ·simp only[sz,simprocAttr,h2,h5,h8,h10,g0,lg1,lp,rt,z1,z2,cu,aJ _ _ _ hxl,eF,c]
   rw[<-hS,zE c]
 ·rintro t df g ⟨rfl,g0,a,-,hS,-⟩
  simp only[sz,simprocAttr,cJ]
  rw[<-hS,List.drop_length];rfl
theorem B2 {p:List Nat}(hp:∀x∈p,x<2 ^ p.length):Chl p (S.aL p):=by
 refine ⟨s5,fun v u=>?_⟩
 by_cases h:v<p.length
 ·have:(S.aL p)[v]?.getD 0=S.aa (Eg p v) p.length:=by simp[S.aL,h]
  rw[this,hY]
  exact ⟨fun h=>h.2,fun h=>⟨(jq hp h).2,h⟩⟩
 ·have:(S.aL p)[v]?=none:=List.getElem?_eq_none (by rw[s5];omega)
  rw[this]
  constructor
  ·intro h';simp at h'
  ·intro h';exact absurd (jq hp h').1 h
theorem y3 {d:Nat}{g:G}{v':AV}{p:List Nat}(hd:0<d)(hv:SlR NoP 0 .nil p v'):ap C0 d N.aU [v'] g=.val (.int .i64 (S.az p [])):=by
 have e:=ig (h:=g.h) d (hv.tree (h':=g.h) (Nat.le_refl 0))
 rw[k_]
 refine eN m7 (xs:=[v']) (by simp only[aA,e]) (by simp[fd]) hd ?_
 simp only[sz,simprocAttr,fd]
 refine iy (tg (Nat.succ_pos d) hv) fun z hz=>?_
 obtain ⟨a,b,rfl,⟨cs,rfl,hcs⟩,hb⟩:=hz
 obtain ⟨_,_,rfl,ha,hb2⟩:=eP.1 hcs
 obtain ⟨pa,rfl,-⟩:=aK.1 ha
 obtain ⟨ch,rfl,-⟩:=aK.1 hb2
 obtain rfl:b=.int .i64 (if S.ax p then (0:Int) else 70):=by simpa using c_.1 hb
 simp only[sz,simprocAttr,List.cons_append,List.nil_append]
 simp only[S.az,S.ay,↓reduceIte]
def stE (p:List Nat)(zs x:Nat)(l:List Nat)(v0 j:Nat)(y:Nat):Prop:=(y=v0/\¬Bt zs v0)\/∃w,w<j/\(Eg p v0 w\/Eg p w v0)/\w ∉ l/\lI (Eg p) (Bt zs) x (w::l) y
theorem DC {p:List Nat}{zs x:Nat}{l:List Nat}{v0 j y:Nat}(h:¬((Eg p v0 j\/Eg p j v0)/\j ∉ l)):stE p zs x l v0 (j+1) y↔stE p zs x l v0 j y:=by
 constructor
 ·rintro (h1 | ⟨w,h1,h2,h3,h4⟩)
  ·exact .inl h1
  ·by_cases e:w=j
   ·subst e;exact absurd ⟨h2,h3⟩ h
   ·exact .inr ⟨w,by omega,h2,h3,h4⟩
 ·rintro (h1 | ⟨w,h1,h2,h3,h4⟩)
  ·exact .inl h1
  ·exact .inr ⟨w,by omega,h2,h3,h4⟩
theorem Bz {p:List Nat}{zs x:Nat}{l:List Nat}{v0 j y:Nat}(h:(Eg p v0 j\/Eg p j v0)/\j ∉ l):stE p zs x l v0 (j+1) y↔stE p zs x l v0 j y\/lI (Eg p) (Bt zs) x (j::l) y:=by
 constructor
 ·rintro (h1 | ⟨w,h1,h2,h3,h4⟩)
  ·exact .inl (.inl h1)
  ·by_cases e:w=j
   ·subst e;exact .inr h4
   ·exact .inl (.inr ⟨w,by omega,h2,h3,h4⟩)
 ·rintro ((h1 | ⟨w,h1,h2,h3,h4⟩) | h1)
  ·exact .inl h1
  ·exact .inr ⟨w,by omega,h2,h3,h4⟩
  ·exact .inr ⟨j,by omega,h.1,h.2,h1⟩
theorem uJ {tr:List Nat}{i j x:Nat}(h:tr[i]?=some x):(tr.take (i+1)).all (fun y=>decide (y≠j))=((tr.take i).all (fun y=>decide (y≠j))&&decide (x≠j)):=by
 rw[List.take_add_one,h,List.all_append];simp
theorem Dk {tr:List Nat}{j:Nat}:tr.all (fun y=>decide (y≠j))=true↔j ∉ tr:=by
 rw[List.all_eq_true]
 simp only[decide_eq_true_eq]
 exact ⟨fun h hj=>h j hj rfl,fun h y hy e=>h (e ▸ hy)⟩
def Dm (p:List Nat)(zs x m:Nat):Prop :=
 ∀{d k k2:Nat} {g:G} {P P2:Nat->Prop} {v w:AV} {tr:List Nat},p.length - tr.length<=m->0<d->SlR P k g.h p v->SlR P2 k2 g.h (tr.map cn) w->Tw (Eg p) x tr.reverse ->
  ap C0 d N.aC [v,w,.int .u64 (zs:Int)] g=.val (.int .u64 (S.aa (lI (Eg p) (Bt zs) x tr.reverse) p.length:Int))
theorem v7 {E:Nat->Nat->Prop}{x:Nat}{l:List Nat}(h:Tw E x l):∃v r,l=v::r:=by
 cases h with
 | one=>exact ⟨_,_,rfl⟩
 | ext _ _ _=>exact ⟨_,_,rfl⟩
theorem BV {kk d:Nat}{Q:QT}{t:T}{g:G}{w':AV}{tr:List Nat}{j:Nat}{b:Bool}{l:List (Nat×AV)}(r2:∀h,SlR NoP kk h (tr.map cn) w')
  (ht:St t [(10,.bool b),(9,.int .i64 (j:Int)),(1,w')]) (h11:tat t 11=.int .i64 0) (hl:∀t a x,a∈[10,11,51,52,53,54,55,56,57,58,59,60,61,62,63,64,65]->St t l->St (co t a x) l) (hlt:St t l)
  (fin:∀t,St t [(10,.bool (b&&decide (j ∉ tr))),(9,.int .i64 (j:Int)),(1,w')]->St t l->Q (.exit 2) t [] g):wpL (wp C0 d none fP) Q t [] g:=by
 have hl1:=(r2 .nil).1
 rw[List.length_map] at hl1
 have wl:∀g,ej .slice w' g=.val (.int .i64 (tr.length:Int)):=fun g=>by rw[(r2 .nil).len g,List.length_map]
 have rt:=fun h=>(r2 h).ints
 obtain ⟨h10,h9,h1,-⟩:=ht
 simp only[fP]
 refine eT hl1 wl (fun i t df g'=>df=[]/\g'=g/\St t l/\tat t 9=.int .i64 (j:Int)/\tat t 10=.bool (b&&(tr.take i).all (fun y=>decide (y≠j)))) ⟨rfl,rfl,hlt,h9,by simp[h10]⟩ h11 h1 (by decide) ?_ ?_ ?_
 ·rintro i t df g' v s (rfl | rfl | rfl | rfl | rfl | rfl | rfl) ⟨a1,a2,a3,a4,a5⟩<;>exact ⟨a1,a2,hl _ _ _ (by simp) a3,by simp[sx,a4],by simp[sx,a5]⟩
 ·rintro i t df g' hi ⟨rfl,rfl,hlt,h9,h10⟩ h11 h1
  obtain ⟨x,hx,-,-⟩:=br hi
  have q:=nM hx
  have z:i<((tr.map cn).map ci).length:=by simpa using hi
  have hall:=uJ (j:=j) hx
  cases hb:(b&&(tr.take i).all (fun y=>decide (y≠j))) with
  | true =>
   rw[hb] at h10
   have hd:(!decide ((x:Int)=(j:Int)))=decide (x≠j):=by
    by_cases e:x=j
    ·simp[e]
    ·have:¬(x:Int)=(j:Int):=by omega
     simp[e,this]
   have hr:(b&&(tr.take (i+1)).all (fun y=>decide (y≠j)))=decide (x≠j):=by rw[hall,<-Bool.and_assoc,hb,Bool.true_and]
   simp only[sz,simprocAttr,h1,h9,h10,h11,rt,z,q,ci]
   refine ⟨?_,?_⟩
   ·repeat' (first | exact hlt | refine hl _ _ _ (by simp) ?_)
   ·rw[hr];simp[sx,hd]
  | false =>
   rw[hb] at h10
   have hr:(b&&(tr.take (i+1)).all (fun y=>decide (y≠j)))=false:=by rw[hall,<-Bool.and_assoc,hb,Bool.false_and]
   simp only[sz,simprocAttr,h1,h9,h10,h11]
   refine ⟨?_,?_⟩
   ·repeat' (first | exact hlt | refine hl _ _ _ (by simp) ?_)
   ·rw[hr]
 ·rintro t df g' ⟨rfl,rfl,hlt,h9,h10⟩ h1
  refine fin t ⟨?_,h9,h1,trivial⟩ hlt
  rw[h10,List.take_length]
  congr 2
  rw[Bool.eq_iff_iff,Dk,decide_eq_true_iff]
theorem BJ {p:List Nat}{zs x:Nat}(hp:∀x∈p,x<2 ^ p.length)(hn:p.length<=8)(hz:zs<2 ^ p.length)(hx:x<p.length):∀m,Dm p zs x m:=by
 intro m
 induction m using Nat.strongRecOn with
 | _ m ih =>
  intro d k k2 g P P2 v w tr hm hd hv hw hT
  obtain ⟨v',e,r1⟩:=bY hv d
  obtain ⟨w',e2,r2⟩:=bY hw d
  have hl1:=hw.1
  rw[List.length_map] at hl1
  have h256:=iU hn
  have hE:∀u v,Eg p u v->u<p.length/\v<p.length:=fun u v h=>jq hp h
  have htl:∀y∈tr,y<p.length:=fun y hy=>Df hE hx hT y (by simpa using hy)
  have hlt:=bf hv
  rw[oJ]
  refine eN qE (xs:=[v',w',.int .u64 (zs:Int)]) (by simp only[aA,e,e2,aW]) (by simp[eL]) hd ?_
  have rt:=fun h=>(r2 h).ints
  have rp:=fun h=>(r1 h).nats
  have wl:∀g,ej .slice w' g=.val (.int .i64 (tr.length:Int)):=fun g=>by rw[(r2 .nil).len g,List.length_map]
  have kO:=fun g=>Bv (d:=d+1) (g:=g) (Nat.succ_pos d) (r1 g.h) (r2 g.h) hp hn htl hz
  cases ho:S.aO p zs tr with
  | false =>
   rw[ho] at kO
   simp only[sz,simprocAttr,eL,kO]
   have hno:¬Tl (Eg p) (Bt zs) x tr.reverse:=fun h=>by rw[oT.2 (Bg.1 h).2] at ho;cases ho
   rw[iE]
   ·rfl
   ·rintro y - ⟨s,h1,-⟩
    have:∃v r,tr.reverse=v::r:=v7 hT
    obtain ⟨v0,r,hr⟩:=this
    rw[hr] at h1 hno
    exact hno (pJ h1 rfl).1
  | true =>
   rw[ho] at kO
   have hTl:Tl (Eg p) (Bt zs) x tr.reverse:=Bg.2 ⟨hT,oT.1 ho⟩
   obtain ⟨v0,r,hr⟩:∃v r,tr.reverse=v::r:=v7 hT
   have htr:tr=r.reverse++[v0]:=by rw[<-List.reverse_reverse tr,hr,List.reverse_cons]
   have hlen:tr.length=r.length+1:=by rw[htr];simp
   have hv0:tr[tr.length - 1]?=some v0:=by rw[htr];simp
   have hv0l:=htl v0 (List.mem_of_getElem? hv0)
   have q0:=nM hv0
   have z0:tr.length - 1<((tr.map cn).map ci).length:=by simp;omega
   have w1:IntKind.wrap .i64 ((tr.length:Int) - 1)=((tr.length - 1:Nat):Int):=by rw[eX (by omega) (by omega)];omega
   have hnd:=uN hT
   have hpv:p[v0]?=some (Par p v0):=by simp[Par,List.getElem?_eq_getElem hv0l]
   have u1:v0<(p.map cu).length:=by simpa using hv0l
   have u2:(p.map cu)[v0]?=some (cu (Par p v0)):=by rw[List.getElem?_map,hpv];rfl
   have kI:∀g,ap C0 (d+1) N.aa [.int .u64 (zs:Int),.int .i64 (v0:Int)] g=.val (.bool (zs.testBit v0)):=fun g=>by rw[iN (Nat.succ_pos d) (by omega) (by omega),jQ]
   have hmem:∀j,j ∉ v0::r↔j ∉ tr:=fun j=>by rw[<-hr,List.mem_reverse]
   have rest:∀t,St t [(0,v'),(1,w'),(2,.int .u64 (zs:Int)),(8,.int .i64 (v0:Int)),(7,.int .u64 (S.aa (stE p zs x (v0::r) v0 0) p.length:Int))] ->
     wp C0 (d+1) none fO (fnQ C0 (d+1) [SR.tm 6] fun v _=>v=AV.int IntKind.u64 ↑(S.aa (lI (Eg p) (Bt zs) x tr.reverse) p.length)) t [] G.empty:=by
    rintro t ⟨t0,t1,t2,t8,t7,-⟩
    simp only[fO,sz,simprocAttr,jt,jp]
    refine eT hv.1 (r1 .nil).len (fun j t df g'=>df=[]/\St t [(1,w'),(2,.int .u64 (zs:Int)),(8,.int .i64 (v0:Int)),(7,.int .u64 (S.aa (stE p zs x (v0::r) v0 j) p.length:Int))]) ⟨rfl,by simp[St,sx,t1,t2,t7,t8]⟩ (by simp[sx]) (by simp[sx,t0]) (by decide)
     (by rintro j t df g v s (rfl | rfl | rfl | rfl | rfl | rfl | rfl)<;>simp[sx,St]) ?_ ?_
    ·rintro j t df g hj ⟨rfl,h1,h2,h8,h7,-⟩ h9 h0
     obtain ⟨y,hy,-,hym⟩:=br hj
     have hpj:Par p j=y:=by simp[Par,hy]
     have hyl:=hlt y hym
     have hpl:=hlt _ (List.mem_of_getElem? hpv)
     have kA:∀g,ap C0 (d+1) N.aa [.int .u64 (y:Int),.int .i64 (v0:Int)] g=.val (.bool (y.testBit v0)):=fun g=>by rw[iN (Nat.succ_pos d) hyl (by omega),jQ]
     have kB:∀g,ap C0 (d+1) N.aa [.int .u64 (Par p v0:Int),.int .i64 (j:Int)] g=.val (.bool ((Par p v0).testBit j)):=fun g=>by rw[iN (Nat.succ_pos d) hpl (by omega),jQ]
     have hadj:(y.testBit v0 || (Par p v0).testBit j)=true↔(Eg p v0 j\/Eg p j v0):=by rw[Bool.or_eq_true,Eg,Eg,hpj]
     obtain ⟨b,hb⟩:∃b,b=(y.testBit v0 || (Par p v0).testBit j):=⟨_,rfl⟩
     have z1:j<(p.map cu).length:=by simpa using hj
     have z2:(p.map cu)[j]?=some (cu y):=by rw[List.getElem?_map,hy];rfl
     rw[<-hb] at hadj
     refine vB (P:=fun t' df' g'=>df'=[]/\g'=g/\St t' [(0,v'),(1,w'),(2,.int .u64 (zs:Int)),(8,.int .i64 (v0:Int)),(7,.int .u64 (S.aa (stE p zs x (v0::r) v0 j) p.length:Int)),(9,.int .i64 (j:Int)),(10,.bool b)]) ?_ ?_
     ·cases hya:y.testBit v0 with
      | true =>
       rw[hya] at kA hb
       simp only[sz,simprocAttr,h0,h1,h8,h9,rp,z1,z2,cu,kA]
       simp[St,sx,h0,h1,h2,h7,h8,h9,hb]
      | false =>
       rw[hya] at kA hb
       simp only[sz,simprocAttr,h0,h1,h8,h9,rp,z1,z2,u1,u2,cu,kA,kB]
       simp[St,sx,h0,h1,h2,h7,h8,h9,hb]
     ·clear h0 h1 h2 h7 h8 h9
      rintro t df g' ⟨rfl,rfl,h0,h1,h2,h8,h7,h9,h10,-⟩
      simp only[sz,simprocAttr]
      refine BV (tr:=tr) (j:=j) (b:=b) (l:=[(0,v'),(2,.int .u64 (zs:Int)),(8,.int .i64 (v0:Int)),(7,.int .u64 (S.aa (stE p zs x (v0::r) v0 j) p.length:Int))]) (fun h=>(r2 h)) (by simp[St,sx,h1,h9,h10]) (by simp[sx]) ?_ (by simp[St,sx,h0,h2,h7,h8]) ?_
      ·rintro t a x ha ⟨b1,b2,b3,b4,-⟩
       simp only[List.mem_cons,List.not_mem_nil,or_false] at ha
       rcases ha with rfl | rfl | rfl | rfl | rfl | rfl | rfl | rfl | rfl | rfl | rfl | rfl | rfl | rfl | rfl | rfl | rfl<;>simp[St,sx,b1,b2,b3,b4]
      rintro t ⟨h10,h9,h1,-⟩ ⟨h0,h2,h8,h7,-⟩
      by_cases hj2:(Eg p v0 j\/Eg p j v0)/\j ∉ tr
      ·have hbt:(b&&decide (j ∉ tr))=true:=by rw[Bool.and_eq_true,decide_eq_true_iff];exact ⟨hadj.2 hj2.1,hj2.2⟩
       rw[hbt] at h10
       have hT2:Tw (Eg p) x (tr++[j]).reverse:=by
        rw[List.reverse_append,hr]
        rw[hr] at hT
        exact hT.ext hj2.1 ((hmem j).2 hj2.2)
       have hln:(tr++[j]).length<=p.length:=by
        have:=nP (uN hT2) (Df hE hx hT2)
        rwa [List.length_reverse] at this
       rw[List.length_append,List.length_singleton] at hln
       simp only[sz,simprocAttr,fT,h0,h1,h2,h7,h8,h9,h10]
       refine dT (b:=0) (rows:=[]) (new:=(tr.map cn).map ci) (.inl ⟨rfl,rfl⟩) (rt _) (Nat.zero_le _) (by simp[el];omega) fun w2 g2 hw2 n2 f2 _ l2=>?_
       simp only[sz,simprocAttr,h9]
       refine dT (new:=[ci (j:Int)]) (hw2.step (Fr.new _ _)) (by simp[sx,sy,ci]) (Nat.zero_le _) (by simp[el];omega) fun w3 g3 hw3 n3 f3 _ l3=>?_
       have e3:([]++(tr.map cn).map ci)++[ci (j:Int)]=((tr++[j]).map cn).map ci:=by simp[cn]
       rw[e3] at hw3
       have kE:=ih (m - 1) (by omega) (d:=d+1) (g:=g3) (tr:=tr++[j]) (by rw[List.length_append,List.length_singleton];omega) (Nat.succ_pos d) (r1 g3.h) (hw3.intsV (by simp;omega)) hT2
       have hA:=ir (stE p zs x (v0::r) v0 j) p.length
       have hB:=ir (lI (Eg p) (Bt zs) x (tr++[j]).reverse) p.length
       simp only[sz,simprocAttr,h0,h2,h7,kE,fp _ _ (show S.aa (stE p zs x (v0::r) v0 j) p.length<18446744073709551616 by omega) (show S.aa (lI (Eg p) (Bt zs) x (tr++[j]).reverse) p.length<18446744073709551616 by omega)]
       rw[A6]
       have eq:S.aa (fun i=>stE p zs x (v0::r) v0 j i\/lI (Eg p) (Bt zs) x (tr++[j]).reverse i) p.length=S.aa (stE p zs x (v0::r) v0 (j+1)) p.length:=bS fun y _=>by
        rw[Bz ⟨hj2.1,(hmem j).2 hj2.2⟩,List.reverse_append,hr];rfl
       rw[eq]
       simp[St,sx,h0,h1,h2,h8,h9]
      ·have hbt:(b&&decide (j ∉ tr))=false:=by
        cases hq:(b&&decide (j ∉ tr)) with
        | false=>rfl
        | true =>
         rw[Bool.and_eq_true,decide_eq_true_iff] at hq
         exact absurd ⟨hadj.1 hq.1,hq.2⟩ hj2
       rw[hbt] at h10
       have eq:S.aa (stE p zs x (v0::r) v0 j) p.length=S.aa (stE p zs x (v0::r) v0 (j+1)) p.length:=bS fun y _=>(DC fun h=>hj2 ⟨h.1,(hmem j).1 h.2⟩).symm
       rw[eq] at h7
       simp only[sz,simprocAttr,fT,h10]
       simp[St,sx,h0,h1,h2,h7,h8,h9]
    ·rintro t df g ⟨rfl,h1,h2,h8,h7,-⟩ h0
     simp only[sz,simprocAttr,jx,h7]
     rw[hr,bS fun y _=>?_]
     rw[hr] at hTl
     rw[y6 hTl]
     constructor
     ·rintro (h | ⟨w,-,h⟩)
      ·exact .inl h
      ·exact .inr ⟨w,h⟩
     ·rintro (h | ⟨w,h2,h⟩)
      ·exact .inl h
      ·exact .inr ⟨w,h2.elim (fun h=>(hE _ _ h).2) fun h=>(hE _ _ h).1,h2,h⟩
   have st0:S.aa (stE p zs x (v0::r) v0 0) p.length=if zs.testBit v0 then 0 else 2 ^ v0:=by
    cases hzb:zs.testBit v0 with
    | true =>
     rw[if_pos rfl]
     refine iE ?_
     rintro y - (⟨-,h⟩ | ⟨w,h,-⟩)
     ·exact h hzb
     ·omega
    | false =>
     rw[if_neg (by decide)]
     refine BF hv0l fun y=>⟨?_,fun h=>.inl ⟨h,fun h'=>by have h':zs.testBit v0=true:=h';rw[hzb] at h';cases h'⟩⟩
     rintro (⟨h,-⟩ | ⟨w,h,-⟩)
     ·exact h
     ·omega
   have hsh:aX .shl (.int .u64 1) (.int .u64 (v0:Int))=.val (.int .u64 ((2 ^ v0:Nat):Int)):=by rw[aG,cP (by omega)]
   have ww:IntKind.wrap .u64 (v0:Int)=(v0:Int):=cU (by omega) (by omega)
   cases hzb:zs.testBit v0 with
   | true =>
    rw[hzb] at kI st0
    simp only[sz,simprocAttr,eL,kO,wl,w1,rt,z0,q0,ci,kI]
    exact rest _ (by simp[St,sx,st0])
   | false =>
    rw[hzb] at kI st0
    simp only[sz,simprocAttr,eL,kO,wl,w1,rt,z0,q0,ci,kI,ww,hsh]
    exact rest _ (by simp[St,sx,st0])
theorem DG {xs zs:Nat}(h:xs &&& zs=0):∀x,Bt xs x->¬Bt zs x:=fun x h1 h2=>by
 have:=congrArg (·.testBit x) h
 have e1:xs.testBit x=true:=h1
 have e2:zs.testBit x=true:=h2
 simp[e1,e2] at this
theorem yB {d k:Nat}{g:G}{P:Nat->Prop}{v:AV}{p:List Nat}{xs zs:Nat}(hd:0<d)(hv:SlR P k g.h p v)(hG:GOk p)(hxs:xs<2 ^ p.length)(hzs:zs<2 ^ p.length)(hxz:xs &&& zs=0) :
  ap C0 d N.aQ [v,.int .u64 (xs:Int),.int .u64 (zs:Int)] g=.val (.int .u64 (S.aq p xs zs:Int)):=by
 obtain ⟨v',e,r1⟩:=bY hv d
 have h256:=iU hG.l8
 have h8:=hG.l8
 rw[nI]
 refine eN pG (xs:=[v',.int .u64 (xs:Int),.int .u64 (zs:Int)]) (by simp only[aA,e,aW]) (by simp[iz]) hd ?_
 obtain ⟨st,hst⟩:∃st:Nat->Nat,st=fun j=>S.aa (fun y=>∃x,x<j/\Bt xs x/\lI (Eg p) (Bt zs) x [x] y) p.length:=⟨_,rfl⟩
 have hst0:st 0=0:=by rw[hst];exact iE (by rintro i - ⟨x,h,-⟩;omega)
 have hstl:∀j,st j<2 ^ p.length:=fun j=>by rw[hst];exact ir _ _
 have hstn:∀j,¬Bt xs j->st (j+1)=st j:=fun j hj=>by
  rw[hst]
  refine bS fun y _=>?_
  constructor
  ·rintro ⟨x,h1,h2,h3⟩
   by_cases e:x=j
   ·subst e;exact absurd h2 hj
   ·exact ⟨x,by omega,h2,h3⟩
  ·rintro ⟨x,h1,h⟩;exact ⟨x,by omega,h⟩
 have hsty:∀j,Bt xs j->st (j+1)=st j ||| S.aa (lI (Eg p) (Bt zs) j [j].reverse) p.length:=fun j hj=>by
  rw[hst,A6]
  refine bS fun y _=>?_
  constructor
  ·rintro ⟨x,h1,h2,h3⟩
   by_cases e:x=j
   ·subst e;exact .inr h3
   ·exact .inl ⟨x,by omega,h2,h3⟩
  ·rintro (⟨x,h1,h⟩ | h)
   ·exact ⟨x,by omega,h⟩
   ·exact ⟨j,by omega,hj,h⟩
 have hfin:st p.length=S.aq p xs zs:=by
  rw[hst]
  refine bS fun y _=>?_
  rw[DJ (sZ hG.hp hG.ac) (DG hxz)]
  constructor
  ·rintro ⟨x,-,h⟩;exact ⟨x,h⟩
  ·rintro ⟨x,h,h2⟩;exact ⟨x,od hxs h,h,h2⟩
 clear hst
 simp only[sz,simprocAttr,iz]
 simp only[iW,iB]
 refine eT hv.1 (r1 .nil).len (fun j t df g=>df=[]/\St t [(1,.int .u64 (xs:Int)),(2,.int .u64 (zs:Int)),(7,.int .u64 (st j:Int))]) ⟨rfl,by simp[St,sx,hst0]⟩ (by simp[sx]) (by simp[sx]) (by decide)
  (by rintro j t df g v s (rfl | rfl | rfl | rfl | rfl | rfl | rfl)<;>simp[sx,St]) ?_ ?_
 ·rintro j t df g hj ⟨rfl,h1,h2,h7,-⟩ h8 h0
  have kI:∀g,ap C0 (d+1) N.aa [.int .u64 (xs:Int),.int .i64 (j:Int)] g=.val (.bool (xs.testBit j)):=fun g=>by rw[iN (Nat.succ_pos d) (by omega) (by omega),jQ]
  cases hb:xs.testBit j with
  | true =>
   rw[hb] at kI
   have hB:=ir (lI (Eg p) (Bt zs) j [j].reverse) p.length
   have hA:=hstl j
   have kE:=fun (g:G) (h:g.h.get (g.nx - 1)=.cells 1 [[.int .i64 (j:Int)]] 0 false false) (hn:0<g.nx)=>BJ hG.hp hG.l8 hzs hj (p.length) (d:=d+1) (g:=g) (tr:=[j]) (v:=v') (w:=.hsl (g.nx - 1) 0 0 1 none) (P2:=fun _=>True) (k2:=0) (by omega) (Nat.succ_pos d) (r1 g.h)
    (Own.intsV (b:=0) (l:=[(j:Int)]) (.inr ⟨g.nx - 1,0,false,by omega,by omega,rfl,h⟩) (by show 1<9223372036854775808;decide) |>.wd fun _ _=>⟨trivial,rfl⟩) .one
   have kE:=kE (g.new (.cells 1 [[.int .i64 (j:Int)]] 0 false false)) (by simp[H.get_put]) (by simp)
   simp only[G.new_nx,Nat.add_sub_cancel] at kE
   simp only[sz,simprocAttr,h0,h1,h2,h7,h8,kI,kE,fp (st j) _ (by omega) (show S.aa (lI (Eg p) (Bt zs) j [j].reverse) p.length<18446744073709551616 by omega)]
   rw[<-hsty j hb]
   simp[St,sx,h1,h2]
  | false =>
   rw[hb] at kI
   simp only[sz,simprocAttr,h0,h1,h8,kI]
   rw[hstn j fun h=>by have h:xs.testBit j=true:=h;rw[hb] at h;cases h]
   simp[St,sx,h1,h2,h7]
 ·rintro t df g ⟨rfl,h1,h2,h7,-⟩ h0
  simp only[sz,simprocAttr,iF,h7]
  rw[hfin]
theorem nG {d k:Nat}{g:G}{P:Nat->Prop}{v:AV}{p:List Nat}{xs ys zs:Nat}(hd:0<d)(hv:SlR P k g.h p v)(hG:GOk p)(hxs:xs<2 ^ p.length)(hys:ys<2 ^ p.length)(hzs:zs<2 ^ p.length)(hxz:xs &&& zs=0) :
  ap C0 d N.ah [v,.int .u64 (xs:Int),.int .u64 (ys:Int),.int .u64 (zs:Int)] g=.val (.bool (decide (S.aq p xs zs &&& ys=0))):=by
 obtain ⟨v',e,r1⟩:=bY hv d
 have h256:=iU hG.l8
 rw[nQ]
 refine cG pI (xs:=[v',.int .u64 (xs:Int),.int .u64 (ys:Int),.int .u64 (zs:Int)]) (by simp only[aA,e,aW]) (by simp[ij]) hd ?_
 have kR:=fun g=>yB (d:=d+1) (g:=g) (Nat.succ_pos d) (r1 g.h) hG hxs hzs hxz
 have hR:S.aq p xs zs<2 ^ p.length:=ir _ _
 simp only[sz,simprocAttr,ij,kR,bp _ _ (show S.aq p xs zs<18446744073709551616 by omega) (show ys<18446744073709551616 by omega)]
 have:decide (((S.aq p xs zs &&& ys:Nat):Int)=0)=decide (S.aq p xs zs &&& ys=0):=by
  by_cases h:S.aq p xs zs &&& ys=0
  ·simp[h]
  ·have:¬((S.aq p xs zs &&& ys:Nat):Int)=0:=by omega
   simp[h]
 rw[this]
def S.ap (p:List Nat)(xs ys zs:Nat):Bool:=decide (S.az p [xs,ys,zs]=0)&&decide (S.aq p xs zs &&& ys=0)
theorem CZ {n x y z:Nat}:S.ay n [x,y,z] 0=true↔x<2 ^ n/\y<2 ^ n/\y &&& x=0/\z<2 ^ n/\z &&& (x ||| y)=0:=by
 simp[S.ay,and_assoc]
theorem Ei {g:G}{id:Nat}{l:List Nat}(h:g.h.get id=.cells 1 (l.map cu) 0 false false)(hi:id<g.nx)  (hl:l.length<9223372036854775808)(hb:∀y∈l,y<18446744073709551616):SlR (fun i=>some id=some i) 0 g.h l (.hsl id 0 0 l.length none) :=
 Own.natsV (b:=0) (v:=.hsl id 0 0 l.length none) (.inr ⟨id,0,false,Nat.zero_le _,hi,by simp,h⟩) hl hb
theorem tM {α:Type} [Rp α]{x:α}{k:Nat}{h h':H}{v:AV}(r:Agg x NoP k h v):Agg x NoP k h' v:=by
 obtain ⟨cs,rfl,r⟩:=r
 exact ⟨cs,rfl,Rp.tree r (Nat.le_refl _)⟩
theorem nJ {d:Nat}{g:G}{v:AV}{p:List Nat}{xs ys zs:Nat}(hd:0<d)(hv:SlR NoP 0 .nil p v)(hx:xs<18446744073709551616)(hy:ys<18446744073709551616)(hz:zs<18446744073709551616) :
  ap C0 d N.af [v,.int .u64 (xs:Int),.int .u64 (ys:Int),.int .u64 (zs:Int)] g=.val (.tup [.bool (S.ap p xs ys zs),.int .i64 (S.az p [xs,ys,zs])]):=by
 have key:∃r,ap C0 d N.af [v,.int .u64 (xs:Int),.int .u64 (ys:Int),.int .u64 (zs:Int)] g=.val r/\ta (One (S.ap p xs ys zs)) (One (S.az p [xs,ys,zs])) NoP 0 .nil r:=by
  have e:=ig (h:=g.h) d (hv.tree (h':=g.h) (Nat.le_refl 0))
  have fin:∀{h:H} {r:Bool} {x:Int},S.ap p xs ys zs=r->S.az p [xs,ys,zs]=x->∃P,ta (One (S.ap p xs ys zs)) (One (S.az p [xs,ys,zs])) P 0 h (.tup [.bool r,.int .i64 x]):=fun h1 h2 =>
   ⟨fun _=>True,_,_,rfl,by rw[h1];exact eK.2 rfl,by rw[h2];exact c_.2 rfl⟩
  rw[ll]
  refine fu mB (xs:=[v,.int .u64 (xs:Int),.int .u64 (ys:Int),.int .u64 (zs:Int)]) (by simp only[aA,e,aW]) (by simp[fj]) (j8 (m:=1) (dw _) (dw _) (by decide) (by decide)) (by decide) hd ?_
  simp only[sz,simprocAttr,fj]
  refine iy (tg (Nat.succ_pos d) hv) fun z hz'=>?_
  obtain ⟨a,b,rfl,ha',hb⟩:=hz'
  have hA:=ha'
  obtain ⟨cs,rfl,hcs⟩:=ha'
  obtain ⟨_,_,rfl,ha,hb2⟩:=eP.1 hcs
  obtain ⟨pa,rfl,-⟩:=aK.1 ha
  obtain ⟨ch,rfl,-⟩:=aK.1 hb2
  obtain rfl:b=.int .i64 (if S.ax p then (0:Int) else 70):=by simpa using c_.1 hb
  have ld:aL (.cells 2 [[pa,ch]] 0 false false) 0 0 true 2 0=.val (.agg [pa,ch]):=rfl
  cases hG:S.ax p with
  | false =>
   have h70:S.az p [xs,ys,zs]=70:=by simp[S.az,hG]
   simp only[sz,simprocAttr,List.cons_append,List.nil_append]
   exact fin (by simp[S.ap,h70]) h70
  | true =>
   have hGo:=iZ.1 hG
   have h256:=iU hGo.l8
   rw[S.gr,hG,if_pos rfl,List.cons_append,List.nil_append] at hA
   have kD:∀g:G,g.h.get 1=.cells 1 [[.int .u64 (xs:Int)],[.int .u64 (ys:Int)],[.int .u64 (zs:Int)]] 0 false false->1<g.nx->ap C0 (d+1) N.aw [.agg [pa,ch],.hsl 1 0 0 3 none] g=.val (.bool (S.ay p.length [xs,ys,zs] 0)) :=
    fun g h hn=>Bq (Nat.succ_pos d) (tM hA) (Ei (l:=[xs,ys,zs]) h hn (by simp) (by simp[hx,hy,hz])) hGo.l8
   have kR:=fun (h1:xs<2 ^ p.length) (h2:zs<2 ^ p.length) g=>zp (d:=d+1) (g:=g) (Nat.succ_pos d) (tM hA) hGo.hp hGo.l1 hGo.l8 (B2 hGo.hp) h1 h2
   simp only[sz,simprocAttr,List.cons_append,List.nil_append,ld,yZ]
   rw[kD _ (by simp[sx,H.get_put]) (by simp)]
   cases hD:S.ay p.length [xs,ys,zs] 0 with
   | false =>
    have h2:S.az p [xs,ys,zs]=2:=by simp[S.az,hG,hD]
    simp only[sz,simprocAttr]
    exact fin (by simp[S.ap,h2]) h2
   | true =>
    have h0:S.az p [xs,ys,zs]=0:=by simp[S.az,hG,hD]
    obtain ⟨d1,d2,-,d3,-⟩:=CZ.1 hD
    have hR:S.aq p xs zs<2 ^ p.length:=ir _ _
    have hq:decide (((S.aq p xs zs &&& ys:Nat):Int)=0)=decide (S.aq p xs zs &&& ys=0):=by
     by_cases h:S.aq p xs zs &&& ys=0
     ·simp[h]
     ·have:¬((S.aq p xs zs &&& ys:Nat):Int)=0:=by omega
      simp[h]
    simp only[sz,simprocAttr,H.get_put,ld,kR d1 d3,bp _ _ (show S.aq p xs zs<18446744073709551616 by omega) hy,hq]
    exact fin (by simp[S.ap,h0]) h0
 obtain ⟨r,h1,a,b,rfl,h2,h3⟩:=key
 have h2:=eK.1 h2
 have h3:=c_.1 h3
 injection h2 with h2
 injection h3 with h3
 rw[h1,h2,h3]
structure DAok (D:ND) (n i:Nat) (num:Nat->Nat):Prop where
 e:∀v,v<n->D.P v=[]/\D.m v=0
 c:∀k,k<i->D.c (num k)=2\/D.c (num k)=3
 o:∀u,D.o u=0
def LDA (n q:Nat)(r5:AV):List (Nat×AV):=[(1,.hptr 0 0 0 0),(2,.hptr 1 0 0 0),(3,.int .i64 (n:Int)),(4,.hptr q 0 0 0),(5,r5)]
structure DA (r0:List AV) (n q:Nat) (gr:Int) (r5:AV) (num:Nat->Nat) (i:Nat) (t:T) (g:G):Prop where
 st:St t (LDA n q r5)
 w:∃w:Nat,tat t 6=.int .i64 (w:Int)/\w<=3 ^ i
 hd:∃V E D,DN X1 r0 n q 1000 gr V E D g/\DAok D n i num
section
variable {κ:Type} [DecidableEq κ]{g:G}{b:Nat}{L:κ->Prop}{V:κ->AV}{E:κ->En}{k:κ}
end
theorem yY (m n:Nat):∃z:Nat,aX .shr (.int .u8 (m:Int)) (.int .u64 (n:Int))=.val (.int .u8 (z:Int)) :=
 ⟨m / 2 ^ (Nat.min n 8),rfl⟩
theorem yE (m n:Nat):∃z:Int,aX .and (.int .u8 (m:Int)) (.int .u8 (n:Int))=.val (.int .u8 z):=by
 have:∃z:Int,Op.intBits .and .u8 (.ofNat m) (.ofNat n)=.pure (.int .u8 z):=⟨_,rfl⟩
 obtain ⟨z,hz⟩:=this
 refine ⟨z,?_⟩
 show orV (jR (Op.intBits .and .u8 (.ofNat m) (.ofNat n)))=_
 rw[hz];rfl
structure DB (D:ND) (n i v:Nat) (num:Nat->Nat):Prop where
 c:∀u,u<n->D.c u=2\/D.c u=3
 p:∀u,u<n->(D.P u).length<=3/\∀y∈D.P u,0<=y/\y<n
 m:∀u,u<n->D.m u<=64
 o:∀u,D.o u=0
 f:∀k,i<k->k<n->D.P (num k)=[]/\D.m (num k)=0
def S.bi (P0:List Int)(c0:Nat->Int):Int:=S.aD (P0.map fun y=>c0 y.toNat)
structure DOk (gr:Int) (D:ND) (n i:Nat) (num:Nat->Nat):Prop where
 s:∀u,u<n->(D.P u).Pairwise (·<·)
 a:∀k,k<n->∀y∈D.P (num k),∃k',k'<k/\y=(num k':Int)
 w:∀k,k<i->(D.m (num k):Int)=S.bi (D.P (num k)) D.c
 r:∀u r,u<n->r<D.m u->El gr (D.c u) (D.R u r)
structure DP (r0 prow:List AV) (n q i p v:Nat) (gr:Int) (r5:AV) (num:Nat->Nat) (g:G) (V:Ky->AV) (E:Ky->En) (D:ND):Prop where
 dn:DN X2 r0 n q 1000 gr V E D g
 pb:V (0,2)=.hptr p 0 0 0/\E (0,2)=.bx prow
 db:DB D n i v num
 mv:D.m v=0
 ok:DOk gr D n i num
end
end Hx
end
