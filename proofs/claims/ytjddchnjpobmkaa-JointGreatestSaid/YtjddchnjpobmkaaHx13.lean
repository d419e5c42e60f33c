/- A part of the proof: an interpreter over abstract values, shown right against the model, and what the functions of the chapter compute on it. -/
import Derived.OpenShut
import Derived.DataReads
import Derived.Test.YtjddchnjpobmkaaHx12
set_option linter.unusedVariables false
set_option linter.unusedSimpArgs false
set_option linter.unnecessarySimpa false
section
namespace Hx
open Go
noncomputable section
def QpV (q:QI):VS:=fun P k h p=>(∃id,p=.hptr id 0 0 0/\P id/\h.get id=.cells 2 [[.int .i64 q.1,.int .i64 q.2]] 0 false false)\/∃t,p=.tptr t 2 [[.int .i64 q.1,.int .i64 q.2]] 0 0/\t<=k
def IqV (q:QI):VS:=fun P k h v=>∃p,v=.clo N.af [] [p]/\QpV q P k h p
theorem F7 {q:QI}{P:Nat->Prop}{k:Nat}{h:H}{p:AV}(d j:Nat)(r:QpV q P k h p):∃p',Hx.snap h d (j+3) p=some p'/\QpV q NoP (max k d) .nil p':=by
 rcases r with ⟨id,rfl,-,hg⟩ | ⟨t,rfl,ht⟩
 ·exact ⟨_,FH d j hg,.inr ⟨_,rfl,by show max d 0<=_;omega⟩⟩
 ·exact ⟨_,rfl,.inr ⟨t,rfl,by omega⟩⟩
theorem G7 (q:QI):Snb (IqV q) 4:=by
 refine ⟨fun {P k h v j} d r hn=>?_,fun {k h v j} r hn=>?_⟩
 ·obtain ⟨p,rfl,r1⟩:=r
  obtain ⟨j,rfl⟩:∃i,j=i+4:=⟨j - 4,by omega⟩
  obtain ⟨p',e1,s1⟩:=F7 d j r1
  refine ⟨.clo N.af [] [p'],?_,p',rfl,s1⟩
  show (match aB (Hx.snap h d (j+3)) [],aB (Hx.snap h d (j+3)) [p] with | some as',some cs=>some (AV.clo N.af as' cs) | _,_=>none)=_
  simp only[aB,e1]
 ·obtain ⟨p,rfl,r1⟩:=r
  obtain ⟨j,rfl⟩:∃i,j=i+4:=⟨j - 4,by omega⟩
  rcases r1 with ⟨id,rfl,hP,-⟩ | ⟨t,rfl,ht⟩
  ·exact hP.elim
  exact ⟨Nat.max t 0,rfl,by show max t 0<=k;omega⟩
theorem He {d:Nat}{g:G}{q:QI}(hd:0<d):am C0 d N.aF [.agg [.int .i64 q.1,.int .i64 q.2]] g=.val (.clo N.af [] [.tptr 0 2 [[.int .i64 q.1,.int .i64 q.2]] 0 0]):=by
 have key:∃r,am C0 d N.aF [.agg [.int .i64 q.1,.int .i64 q.2]] g=.val r/\IqV q NoP 0 .nil r:=by
  rw[pu]
  refine aX qi (xs:=[.agg [.int .i64 q.1,.int .i64 q.2]]) rfl (by simp[ib]) (G7 q) (by decide) hd ?_
  simp only[sz,simprocAttr,ib,jn]
  exact ⟨fun _=>True,_,rfl,.inl ⟨0,rfl,trivial,by simp[sx]⟩⟩
 obtain ⟨r,h1,p,rfl,h2⟩:=key
 rcases h2 with ⟨id,rfl,hP,-⟩ | ⟨t,rfl,ht⟩
 ·exact hP.elim
 rw[h1,show t=0 by omega]
theorem Br (d:Nat)(a b p:AV)(g:G):e_ C0 (I C0) d (.clo N.af [] [p]) [a,b] g=orF ((I C0).call d N.af [a,b,p] g):=by kernel_rfl
theorem Fv {d:Nat}{g:G}{q:QI}{K:AV->G->Prop}{D:ADf->Prop}(kk:∀g',Fr g g'->(∀i∈g'.lg,i∈g.lg\/g.nx<=i)->K (.bool true) g') :
  (e_ C0 (I C0) d (.clo N.af [] [.tptr 0 2 [[.int .i64 q.1,.int .i64 q.2]] 0 0]) [.agg [.int .i64 q.1,.int .i64 q.2],.int .i64 0] g).sat K g D:=by
 rw[Br]
 refine vV oZ (by simp[fH]) ?_
 simp only[fH,ii,sx,sy,SO.run,↓reduceIte,Nat.reduceEqDiff,Nat.reduceAdd,Nat.reduceLeDiff,dN,GY,decide_true]
 exact kk _ ⟨by simp,fun i hi=>by simp[H.get_put,show ¬i=g.nx by omega]⟩ (fun i hi=>by simp at hi;rcases hi with rfl | hi;exact .inr (Nat.le_refl _);exact .inl hi)
def S.bm (xs ys zs:Nat):List Nat:=[xs ||| ys ||| zs,zs,xs ||| zs,ys ||| zs]
def S.bE (n:Net)(xs ys zs i w:Nat):Int:=S.bA n ((S.bm xs ys zs)[i]?.getD 0) w
structure DpM (n:Net) (xs ys zs mb j k:Nat) (h:H):Prop where
 hm:∀i,i<4->∃L:List (Int×Int),h.get (mb+i)=.map (mcl ik L)/\∀K,mgt L K=S.bD n ((S.bm xs ys zs)[i]?.getD 0) K j+if i<k/\S.bE n xs ys zs i j=K then S.wt n j else 0
structure DpK (g0:G) (mb:Nat) (g:G):Prop where
 nx:g0.nx<=g.nx
 fr:∀i,(i<mb\/mb+4<=i)->i<g0.nx->g.h.get i=g0.h.get i
set_option maxRecDepth 20000 in
structure DpL (n:Net) (U V:AV) (g:G):Prop where
 u:∃rows,Own g 1 U 1 rows/\All2 (Rp.rp NoP 0 .nil) ((List.range (S.ah n)).map fun w:Nat=>S.ak (S.ac n) (w:Int)) rows
 v:Own g 1 V 1 ((List.range (S.ah n)).map fun w:Nat=>[AV.int .i64 (S.aR n (S.ak (S.ac n) (w:Int)))])
structure DpS (n:Net) (xs ys zs:Nat) (b a3 a4:AV) (g:G):Prop where
 h1:g.h.get 1=.cells 1 [[.bool false]] 0 false false
 h2:g.h.get 2=.cells 1 [[.int .i64 0]] 0 false false
 h3:g.h.get 3=.cells 4 [[.int .i64 n.grain,b,a3,a4]] 0 false false
 h4:g.h.get 4=.cells 4 [[.int .u64 (((S.bm xs ys zs)[0]?.getD 0:Nat):Int),.int .u64 (((S.bm xs ys zs)[1]?.getD 0:Nat):Int),.int .u64 (((S.bm xs ys zs)[2]?.getD 0:Nat):Int),.int .u64 (((S.bm xs ys zs)[3]?.getD 0:Nat):Int)]] 0 false false
 h9:g.h.get 9=.cells 4 [[.hmap 5,.hmap (5+1),.hmap (5+2),.hmap (5+3)]] 0 false false
set_option maxRecDepth 20000 in
structure DpJ (g0:G) (n:Net) (xs ys zs j:Nat) (h:H):Prop where
 fr:∀i,i<10->(i<5\/9<=i)->h.get i=g0.h.get i
 m:DpM n xs ys zs 5 j 0 h
theorem yJ (g:G):am C0 1 N.bj [] g=.val (.bool true):=by kernel_rfl
theorem ld9 {A:List AV}(h:A.length=9):fC (.cells 9 [A] 0 false false) 0 0 true 9 0=.val (.agg A):=by
 match A,h with
 | [a,b,c,d,e,f,g,h,i],_=>rfl
theorem yq {n:Net}{e:List Int}:∀j,(S.an n e 0 j).2≠0->∃k:Nat,k<j/\(S.an n e 0 j).1=(k:Int)/\S.pe n e k=true/\S.wt n k=(S.an n e 0 j).2
 | 0,h=>absurd rfl h
 | j+1,h=>by
  rw[S.an] at h ⊢
  split
  ·rename_i hc
   exact ⟨j,by omega,rfl,hc.1,rfl⟩
  ·rename_i hc
   rw[if_neg hc] at h
   obtain ⟨k,h1,h2⟩:=yq j h
   exact ⟨k,by omega,h2⟩
theorem Ap {n:Net}{e:List Int}(hr:NR n):∀j i:Nat,i<j->S.pe n e i=true->S.wt n i<=(S.an n e 0 j).2/\(S.wt n i=(S.an n e 0 j).2->(S.an n e 0 j).2≠0->(S.an n e 0 j).1<=(i:Int))
 | 0,i,h,_=>absurd h (Nat.not_lt_zero i)
 | j+1,i,h,hp=>by
  have ih:=Ap (e:=e) hr j i
  have hb:=nX hr e 0 j
  rw[S.an]
  split
  ·rename_i hc
   by_cases e:i=j
   ·subst e
    exact ⟨Int.le_refl _,fun _ _=>Int.le_refl _⟩
   ·have:=(ih (by omega) hp).1
    exact ⟨by show _<=S.wt n j;omega,fun h1=>by have h1:S.wt n i=S.wt n j:=h1;omega⟩
  ·rename_i hc
   by_cases e:i=j
   ·subst e
    have h1:¬(S.an n _ 0 i).2<S.wt n i:=fun h=>hc ⟨hp,h⟩
    exact ⟨by omega,fun _ _=>by omega⟩
   ·exact ih (by omega) hp
def S.mt (vals e:List Int)(j:Nat):Bool:=(List.range j).all (S.bh vals e)
theorem Gq (vals e:List Int)(j:Nat):S.mt vals e (j+1)=(S.mt vals e j&&S.bh vals e j):=by simp[S.mt,List.range_succ]
def LGr (w:AV)(W most i wi:Int)(z:AV):List (Nat×AV):=[(5,.hptr 2 0 0 0),(6,w),(7,.int .i64 W),(14,.int .i64 most),(16,.int .i64 i),(17,z),(19,.int .i64 wi)]
theorem Dw {e vals:List Int}{w z:AV}{W most i wi ct:Int}{Q:QT}{t:T}{g:G}(he:SlR NoP 0 .nil e w)(hz:∀h,ae h 1 z=some (vals.map ci))(hl:vals.length=e.length)(hlb:e.length<=8)
  (ht:St t (LGr w W most i wi z)) (h91:tat t 91=.int .i64 ct) (h92:tat t 92=.int .i64 i) (h21:tat t 21=.bool true) (h120:tat t 120=w) (h121:tat t 121=.int .i64 (e.length:Int)) (h122:tat t 122=.int .i64 0)
  (fin:∀t,St t (LGr w W most i wi z)->tat t 91=.int .i64 ct->tat t 92=.int .i64 i->tat t 21=.bool (S.bc vals e)->Q (.exit 2) t [] g):wpL (wp C0 1 none cz) Q t [] g:=by
 have re:∀h,ae h 1 w=some (e.map ci):=fun h=>(he.tree (h':=h) (Nat.le_refl 0):SlR NoP 0 h e w).ints
 simp only[cz]
 refine aT (m:=e.length) (by omega) (fun j t df g'=>df=[]/\g'=g/\St t (LGr w W most i wi z)/\tat t 91=.int .i64 ct/\tat t 92=.int .i64 i/\tat t 21=.bool (S.mt vals e j)/\tat t 120=w)
  ⟨rfl,rfl,ht,h91,h92,h21,h120⟩ h122 h121 (by decide) ?_ ?_ ?_
 ·rintro j t df g' v s hs ⟨a1,a2,⟨b1,b2,b3,b4,b5,b6,b7,-⟩,a4,a5,a6,a7⟩
  refine ⟨a1,a2,?_,?_,?_,?_,?_⟩<;>rcases hs with rfl | rfl | rfl<;>simp[St,LGr,sx, *]
 ·rintro j t df g' hj ⟨rfl,rfl,⟨h5,h6,h7,h14,h16,h17,h19,-⟩,h91,h92,h21,h120⟩ h122 h121
  obtain ⟨y,hy,-,-⟩:=au hj
  obtain ⟨x,hx,-,-⟩:=au (l:=vals) (j:=j) (by omega)
  have q1:j<(e.map ci).length:=by simpa using hj
  have q2:(e.map ci)[j]?=some (ci y):=by rw[List.getElem?_map,hy];rfl
  have q3:j<(vals.map ci).length:=by simp;omega
  have q4:(vals.map ci)[j]?=some (ci x):=by rw[List.getElem?_map,hx];rfl
  have hm:S.bh vals e j=(decide (y<0) || decide (y=x)):=by simp[S.bh,hx,hy]
  have ms:=Gq vals e j
  rw[hm] at ms
  cases hc:S.mt vals e j with
  | false =>
   rw[hc] at h21 ms
   simp only[sz,simprocAttr,h120,h122,re,q1,q2,ci,h21]
   simp[St,LGr,sx,h5,h6,h7,h14,h16,h17,h19,h91,h92,h120,h121,h122,ms]
  | true =>
   rw[hc] at h21 ms
   by_cases c1:y<0
   ·have d1:decide (y<0)=true:=decide_eq_true c1
    rw[d1] at ms
    simp only[sz,simprocAttr,h120,h122,re,q1,q2,ci,h21,c1,d1]
    simp[St,LGr,sx,h5,h6,h7,h14,h16,h17,h19,h91,h92,h120,h121,h122,ms]
   ·have d1:decide (y<0)=false:=decide_eq_false c1
    rw[d1] at ms
    simp only[sz,simprocAttr,h120,h122,re,q1,q2,ci,h21,c1,d1,h17,hz,q3,q4]
    simp[St,LGr,sx,h5,h6,h7,h14,h16,h17,h19,h91,h92,h120,h121,h122,ms]
 ·rintro t df g' ⟨rfl,rfl,ht,h91,h92,h21,-⟩
  exact fin t ht h91 h92 h21
def LGm (w:AV)(W most ct:Int):List (Nat×AV):=[(5,.hptr 2 0 0 0),(6,w),(7,.int .i64 W),(14,.int .i64 most),(91,.int .i64 ct)]
theorem EF {n:Net}{e:List Int}{b w:AV}{W:Nat}{t:T}{g:G}(hm:∀h,Agg n NoP 0 h (.agg [.int .i64 n.grain,b]))(hr:NR n)(hev:S.aB n e=true)(he:SlR NoP 0 .nil e w)(hW:W<S.ah n)(hwp:S.pe n e W=true)
  (hmax:∀i:Nat,i<S.ah n->S.pe n e i=true->S.wt n i<=S.wt n W/\(S.wt n i=S.wt n W->W<=i))
  (ht:St t (LGm w W (S.wt n W) (S.ah n))) (h92:tat t 92=.int .i64 0) (k2:g.h.get 2=.cells 2 [[.int .i64 n.grain,b]] 0 false false) :
  wp C0 1 none (.seq (.blk 0 (.loop cw)) cx) (fnQ C0 1 [.tm 4] fun v _=>v=.bool true) t [] g:=by
 have l1:=pB hev
 have hl8:=hr.l2
 have hwl:=hr.wl
 rw[cW]
 simp only[wx,vI,cw,eo]
 have ld2:fC (.cells 2 [[.int .i64 n.grain,b]] 0 false false) 0 0 true 2 0=.val (.agg [.int .i64 n.grain,b]):=rfl
 refine aT (m:=S.ah n) (by omega) (fun j t df g'=>df=[]/\g'=g/\St t [(5,.hptr 2 0 0 0),(6,w),(7,.int .i64 W),(14,.int .i64 (S.wt n W))]) ⟨rfl,rfl,?_⟩ h92 ?_ (by decide) ?_ ?_ ?_
 ·obtain ⟨h5,h6,h7,h14,h91,-⟩:=ht
  exact ⟨h5,h6,h7,h14,trivial⟩
 ·exact ht.2.2.2.2.1
 ·rintro j t df g' v s hs ⟨a1,a2,⟨b1,b2,b3,b4,-⟩⟩
  refine ⟨a1,a2,?_⟩
  rcases hs with rfl | rfl | rfl<;>simp[St,sx, *]
 ·rintro j t df g' hj ⟨rfl,rfl,⟨h5,h6,h7,h14,-⟩⟩ h92 h91
  have kV:=fun g=>yU (d:=1) (g:=g) (w:=j) (by decide) (hm _) hr hj
  have kW:=fun g=>sY (d:=1) (g:=g) (w:=j) (by decide) (hm _) hr hj
  have hvl:=gn (S.ac n) (j:Int)
  rw[aR] at hvl
  refine bK (P:=fun t' df gg=>df=[]/\gg=g'/\St t' [(5,.hptr 2 0 0 0),(6,w),(7,.int .i64 W),(14,.int .i64 (S.wt n W)),(91,.int .i64 (S.ah n:Int)),(92,.int .i64 (j:Int)),(16,.int .i64 (j:Int))]) ?_ ?_
  ·simp only[sz,simprocAttr,h92]
   simp[St,sx,h5,h6,h7,h14,h91,h92]
  clear h5 h6 h7 h14 h91 h92
  rintro t df g1 ⟨rfl,hg,h5,h6,h7,h14,h91,h92,h16,-⟩
  rw[hg];clear hg
  refine bK (P:=fun t' df gg=>df=[]/\gg=g'/\∃z,IT 0 (S.ak (S.ac n) (j:Int)) z/\St t' [(5,.hptr 2 0 0 0),(6,w),(7,.int .i64 W),(14,.int .i64 (S.wt n W)),(91,.int .i64 (S.ah n:Int)),(92,.int .i64 (j:Int)),(16,.int .i64 (j:Int)),(17,z),(18,.int .i64 0)]) ?_ ?_
  ·simp only[sz,simprocAttr,h5,h16,k2,ld2]
   refine fF (kV _) ?_
   rintro _ ⟨z,rfl,hz⟩
   simp only[sz,simprocAttr]
   exact ⟨z,hz,by simp[St,sx,h5,h6,h7,h14,h91,h92,h16]⟩
  clear h5 h6 h7 h14 h91 h92 h16
  rintro t df g1 ⟨rfl,hg,z,hz,h5,h6,h7,h14,h91,h92,h16,h17,h18,-⟩
  rw[hg];clear hg
  refine bK (P:=fun t' df gg=>df=[]/\gg=g'/\St t' ((91,.int .i64 (S.ah n:Int))::(92,.int .i64 (j:Int))::(18,.int .i64 0)::(20,.int .i64 0)::LGr w W (S.wt n W) j (S.wt n j) z)) ?_ ?_
  ·simp only[sz,simprocAttr,h5,h16,k2,ld2,kW]
   simp[St,LGr,sx,h5,h6,h7,h14,h91,h92,h16,h17,h18]
  clear h5 h6 h7 h14 h91 h92 h16 h17 h18
  rintro t df g1 ⟨rfl,hg,h91,h92,h18,h20,h5,h6,h7,h14,h16,h17,h19,-⟩
  rw[hg];clear hg
  have lz:=hz.len
  have le:=he.len
  rw[hvl] at lz
  rw[l1.1] at le
  refine eG (P:=fun t' df gg=>df=[]/\gg=g'/\St t' ((91,.int .i64 (S.ah n:Int))::(92,.int .i64 (j:Int))::LGr w W (S.wt n W) j (S.wt n j) z)) ?_ ?_
  ·simp only[sz,simprocAttr,h18,h20,h17,h6,lz,le]
   simp[St,LGr,sx,h5,h6,h7,h14,h91,h92,h16,h17,h19]
  clear h5 h6 h7 h14 h91 h92 h16 h17 h18 h19 h20
  rintro t df g1 ⟨rfl,hg,h91,h92,h5,h6,h7,h14,h16,h17,h19,-⟩
  rw[hg];clear hg
  have le:=he.len
  refine bK (P:=fun t' df gg=>df=[]/\gg=g'/\St t' ((91,.int .i64 (S.ah n:Int))::(92,.int .i64 (j:Int))::(21,.bool true)::LGr w W (S.wt n W) j (S.wt n j) z)) ?_ ?_
  ·simp only[sz,simprocAttr]
   simp[St,LGr,sx,h5,h6,h7,h14,h91,h92,h16,h17,h19]
  clear h5 h6 h7 h14 h91 h92 h16 h17 h19
  rintro t df g1 ⟨rfl,hg,h91,h92,h21,h5,h6,h7,h14,h16,h17,h19,-⟩
  rw[hg];clear hg
  simp only[sz,simprocAttr,h6,le]
  refine Dw (e:=e) (vals:=S.ak (S.ac n) (j:Int)) (w:=w) (z:=z) (W:=W) (most:=S.wt n W) (i:=j) (wi:=S.wt n j) (ct:=S.ah n) he (fun h=>hz.rows h) (by rw[hvl];exact l1.1.symm) (by omega) (by simp[St,LGr,sx, *]) (by simp[sx,h91]) (by simp[sx,h92]) (by simp[sx,h21]) (by simp[sx]) (by simp[sx]) (by simp[sx]) ?_
  intro t2 ht2 h91 h92 h21
  clear h5 h6 h7 h14 h16 h17 h19
  obtain ⟨h5,h6,h7,h14,h16,h17,h19,-⟩:=ht2
  have hpe:S.bc (S.ak (S.ac n) (j:Int)) e=S.pe n e j:=rfl
  rw[hpe] at h21
  cases hp:S.pe n e j with
  | true =>
   rw[hp] at h21
   obtain ⟨m1,m2⟩:=hmax j hj hp
   have n1:¬S.wt n W<S.wt n j:=by omega
   by_cases c1:S.wt n j=S.wt n W
   ·have n2:¬(j:Int)<(W:Int):=by have:=m2 c1;omega
    have n1':¬S.wt n W<S.wt n W:=by omega
    simp only[sz,simprocAttr,bu,h21,h19,h14,h16,h7,c1,n1',n2]
    simp[St,sx,h5,h6,h7,h14,h91,h92]
   ·simp only[sz,simprocAttr,bu,h21,h19,h14,h16,h7,c1,n1]
    simp[St,sx,h5,h6,h7,h14,h91,h92]
  | false =>
   rw[hp] at h21
   have n3:¬((j:Int)=(W:Int)):=fun h=>by
    have:j=W:=by omega
    rw[this,hwp] at hp;cases hp
   simp only[sz,simprocAttr,bu,h21,h16,h7,n3]
   simp[St,sx,h5,h6,h7,h14,h91,h92]
 ·rintro t df g' ⟨rfl,rfl,-⟩
  simp only[sz,simprocAttr,cx]
theorem pi {x:qt}{u1:AV}{vs:List UInt8}(hx:Agg x NoP 0 .nil u1)(hv:vs.length=9):∃g',(I C0).call 1 N.bh [u1,.agg (vs.map u8v)] G.empty=.ok (.bool true) g':=by
 obtain ⟨xs,rfl,qx⟩:=hx
 obtain ⟨a1',a2',e1,-⟩:=uV.1 qx
 have hxl:xs.length=3:=by rw[e1];rfl
 clear e1 a1' a2'
 obtain ⟨A,hA⟩:∃A,A=vs.map u8v:=⟨_,rfl⟩
 have hAl:A.length=9:=by rw[hA];simpa using hv
 rw[<-hA]
 have key:=kJ (C:=C0) (d:=1) (f:=N.bh) («as»:=[.agg xs,.agg A]) (g:=G.empty) (K:=fun v g'=>v=.bool true) lK (by simp[dj]) ?_
 ·cases hc':(I C0).call 1 N.bh [.agg xs,.agg A] G.empty with
  | fail=>rw[hc'] at key;exact key.elim
  | ok v g'=>rw[hc'] at key;exact ⟨g',by rw[show v=.bool true from key]⟩
 simp only[sz,simprocAttr,dj,pJ]
 obtain ⟨g0,hg0⟩:∃g0,g0=(G.empty.new (AObj.cells xs.length [xs] 0 false false)).new (AObj.cells A.length [A] 0 false false):=⟨_,rfl⟩
 rw[<-hg0]
 have f0:g0.h.get 0=.cells 3 [xs] 0 false false:=by rw[hg0,hxl];simp[sx,H.get_put]
 have f1:g0.h.get 1=.cells 9 [A] 0 false false:=by rw[hg0,hAl];simp[sx]
 have f3:g0.nx=2:=by rw[hg0];simp[sx]
 clear hg0
 have ld0:fC (.cells 3 [xs] 0 false false) 0 0 true 3 0=.val (.agg xs):=by
  match xs,hxl with
  | [a,b,c],_=>rfl
 have lA:=ld9 hAl
 simp only[ff]
 refine eG (P:=fun t' df g'=>df=[]/\g'=g0/\St t' [(2,.hptr 0 0 0 0),(3,.hptr 1 0 0 0)]) ?_ ?_
 ·simp only[sz,simprocAttr,yJ]
  simp[St,sx]
 rintro t df g1 ⟨rfl,rfl,h2,h3,-⟩
 obtain ⟨rn,en,n,hdr,cn,rfl,hcn⟩:=F4 (g:=g1) (d:=1) (by decide) (A2 (P:=NoP) qx g1.h)
 obtain ⟨b,rfl,hNb⟩:=iG.1 hcn
 have hM:∀h,Agg n NoP 0 h (.agg [.int .i64 n.grain,b]):=fun h=>A2 hcn h
 have hr:=hdr.nr
 have hl8:=hr.l2
 have hcard:∀x∈n.nodes,0<x.card:=fun x hx=>by have:=hr.card x hx;omega
 refine bK (P:=fun t' df g'=>df=[]/\g'.nx=3/\St t' [(3,.hptr 1 0 0 0),(5,.hptr 2 0 0 0)]/\g'.h.get 1=.cells 9 [A] 0 false false/\g'.h.get 2=.cells 2 [[.int .i64 n.grain,b]] 0 false false) ?_ ?_
 ·simp only[sz,simprocAttr,h2,f0,ld0,en]
  simp[St,sx,h3,f1,f3]
 clear f0 f1 f3 h2 h3 en
 rintro t df g2 ⟨rfl,n2,⟨h3,h5,-⟩,f1,f2⟩
 have ld2:fC (.cells 2 [[.int .i64 n.grain,b]] 0 false false) 0 0 true 2 0=.val (.agg [.int .i64 n.grain,b]):=rfl
 refine bK (P:=fun t' df g'=>df=[]/\g'=g2/\∃(e:List Int) (w:AV),S.aB n e=true/\SlR NoP 0 .nil e w/\St t' [(5,.hptr 2 0 0 0),(6,w)]) ?_ ?_
 ·simp only[sz,simprocAttr,sf,h3,h5,f1,f2,lA,ld2]
  rw[hA]
  refine fF (C9 (m:=n) (d:=1) (by decide) hv (hM _) (by omega) hcard) ?_
  rintro w ⟨e,he,hw⟩
  have hw:SlR NoP 0 .nil e w:=IT.sl (k:=0) hw .nil
  simp only[sz,simprocAttr,sf]
  exact ⟨e,w,he,hw,by simp[St,sx,h5]⟩
 clear h3 h5 f1
 rintro t df g3 ⟨rfl,rfl,e,w,he,hw,h5,h6,-⟩
 have hn:=cA.2 hr
 have l1:=pB he
 have r1:S.ax n e=0:=nj.2 ⟨hn,he⟩
 have kB:∀g,am C0 1 N.aA [.agg [.int .i64 n.grain,b],w] g=.val (.tup [.int .i64 (S.aM n e),.agg [.int .i64 (S.aK n e).1,.int .i64 (S.aK n e).2],.int .i64 (S.aH n e)]):=fun g=>D8 (by decide) (hM _) (hw.tree (h':=g.h) (Nat.le_refl 0))
 have kM:∀g,am C0 1 N.aD [.agg [.int .i64 n.grain,b],w] g=.val (.tup [.int .i64 (S.aN n e),.int .i64 0]):=fun g=>by
  have:=EY (d:=1) (g:=g) (n:=n) (by decide) (hM _) (hw.tree (h':=g.h) (Nat.le_refl 0))
  rw[S.be,if_pos r1,r1] at this
  exact this
 have kN:∀g,am C0 1 N.aB [.agg [.int .i64 n.grain,b]] g=.val (.tup [.int .i64 (S.ah n:Int),.int .i64 0]):=fun g=>yT (by decide) (hM _) hr
 refine bK (P:=fun t' df g'=>df=[]/\g'.nx=4/\g'.h.get 2=.cells 2 [[.int .i64 n.grain,b]] 0 false false/\g'.h.get 3=.cells 2 [[.int .i64 (S.aK n e).1,.int .i64 (S.aK n e).2]] 0 false false/\St t' [(5,.hptr 2 0 0 0),(6,w),(7,.int .i64 (S.aM n e)),(8,.hptr 3 0 0 0),(9,.int .i64 (S.aH n e))]) ?_ ?_
 ·simp only[sz,simprocAttr,h5,h6,f2,ld2,kB]
  simp[St,sx,H.get_put,h5,h6,n2,f2]
 clear h5 h6 f2
 rintro t df g4 ⟨rfl,n4,f2,f3,h5,h6,h7,h8,h9,-⟩
 refine bK (P:=fun t' df g'=>df=[]/\g'=g4/\St t' [(5,.hptr 2 0 0 0),(6,w),(7,.int .i64 (S.aM n e)),(8,.hptr 3 0 0 0),(9,.int .i64 (S.aH n e)),(10,.int .i64 (S.aN n e)),(11,.int .i64 0)]) ?_ ?_
 ·simp only[sz,simprocAttr,h5,h6,f2,ld2,kM]
  simp[St,sx,h5,h6,h7,h8,h9]
 clear h5 h6 h7 h8 h9
 rintro t df g5 ⟨rfl,hg,h5,h6,h7,h8,h9,h10,h11,-⟩
 rw[hg];clear hg
 refine bK (P:=fun t' df g'=>df=[]/\g'=g4/\St t' [(5,.hptr 2 0 0 0),(6,w),(7,.int .i64 (S.aM n e)),(8,.hptr 3 0 0 0),(9,.int .i64 (S.aH n e)),(10,.int .i64 (S.aN n e)),(11,.int .i64 0),(12,.int .i64 (S.ah n:Int)),(13,.int .i64 0)]) ?_ ?_
 ·simp only[sz,simprocAttr,h5,h6,f2,ld2,kN]
  simp[St,sx,h5,h6,h7,h8,h9,h10,h11]
 clear h5 h6 h7 h8 h9 h10 h11
 rintro t df g5 ⟨rfl,hg,h5,h6,h7,h8,h9,h10,h11,h12,h13,-⟩
 rw[hg];clear hg
 by_cases hz:S.aN n e=0
 ·have e1:S.aH n e=7:=by rw[S.aH,if_pos r1,if_pos hz]
  have e2:S.aM n e=0:=by rw[S.aM,e1];rfl
  have e3:S.aK n e=(0,0):=by rw[S.aK,e1];rfl
  rw[hz] at h10
  rw[e1] at h9
  rw[e2] at h7
  rw[e3] at f3
  have hbd:ql [.int .i64 0,.int .i64 0] [] []=.val (.agg [.int .i64 0,.int .i64 0]):=rfl
  have hq:=GY 0 0
  simp only[sz,simprocAttr,h7,h8,h9,h10,h11,h12,h13,f3,hbd,hq]
 ·have e1:S.aH n e=0:=by rw[S.aH,if_pos r1,if_neg hz]
  have hb0:(S.an n e 0 (S.ah n)).2≠0:=fun h=>hz (by rw[sV];exact Ah hr e 0 _ h)
  obtain ⟨W,hW,b1,b2,b3⟩:=yq _ hb0
  have e2:S.aM n e=(W:Int):=by rw[S.aM,if_pos e1,b1]
  have hmb:=qN hr e
  obtain ⟨M,hMM⟩:=Int.eq_ofNat_of_zero_le hmb.1
  have hwb:=rV hr W
  obtain ⟨Y,hY⟩:=Int.eq_ofNat_of_zero_le hwb.1
  have e3:S.aK n e=S.aP Y M:=by rw[S.aK,if_pos e1,<-b3,hMM,hY];rfl
  have hmax:∀i:Nat,i<S.ah n->S.pe n e i=true->S.wt n i<=S.wt n W/\(S.wt n i=S.wt n W->W<=i):=fun i hi hp=>by
   have:=Ap (e:=e) hr _ i hi hp
   rw[<-b3,b1] at this
   rw[<-b3] at hb0
   exact ⟨this.1,fun h=>by have:=this.2 h hb0;omega⟩
  have kW:=fun g=>sY (d:=1) (g:=g) (w:=W) (by decide) (hM _) hr hW
  have kF:=fun g=>xJ (d:=1) (g:=g) (n:=Y) (m:=M) (by decide) (by omega) (by omega) (by omega)
  have kI:=fun g=>He (d:=1) (g:=g) (q:=S.aP Y M) (by decide)
  rw[e1] at h9
  rw[e2] at h7
  rw[e3] at f3
  rw[hMM] at h10
  have hM0:¬(M:Int)=0:=by omega
  refine eG (P:=fun t' df g'=>df=[]/\g'=g4/\St t' [(5,.hptr 2 0 0 0),(6,w),(7,.int .i64 (W:Int)),(8,.hptr 3 0 0 0),(9,.int .i64 0),(10,.int .i64 (M:Int)),(12,.int .i64 (S.ah n:Int))]) ?_ ?_
  ·simp only[sz,simprocAttr,h11,h13]
   simp[St,sx,h5,h6,h7,h8,h9,h10,h12]
  clear h5 h6 h7 h8 h9 h10 h11 h12 h13
  rintro t df g5 ⟨rfl,hg,h5,h6,h7,h8,h9,h10,h12,-⟩
  rw[hg];clear hg
  refine eG (P:=fun t' df g'=>df=[]/\g'=g4/\St t' [(5,.hptr 2 0 0 0),(6,w),(7,.int .i64 (W:Int)),(8,.hptr 3 0 0 0),(9,.int .i64 0),(10,.int .i64 (M:Int)),(12,.int .i64 (S.ah n:Int))]) ?_ ?_
  ·simp only[sz,simprocAttr,h10,hM0]
   simp[St,sx,h5,h6,h7,h8,h9,h10,h12]
  clear h5 h6 h7 h8 h9 h10 h12
  rintro t df g5 ⟨rfl,hg,h5,h6,h7,h8,h9,h10,h12,-⟩
  rw[hg];clear hg
  refine bK (P:=fun t' df g'=>df=[]/\g'=g4/\St t' [(5,.hptr 2 0 0 0),(6,w),(7,.int .i64 (W:Int)),(8,.hptr 3 0 0 0),(9,.int .i64 0),(10,.int .i64 (M:Int)),(12,.int .i64 (S.ah n:Int)),(14,.int .i64 (Y:Int)),(15,.int .i64 0)]) ?_ ?_
  ·rw[hY] at kW
   simp only[sz,simprocAttr,h5,h7,f2,ld2,kW]
   simp[St,sx,h5,h6,h7,h8,h9,h10,h12]
  clear h5 h6 h7 h8 h9 h10 h12
  rintro t df g5 ⟨rfl,hg,h5,h6,h7,h8,h9,h10,h12,h14,h15,-⟩
  rw[hg];clear hg
  have l3:fC (.cells 2 [[.int .i64 (S.aP Y M).1,.int .i64 (S.aP Y M).2]] 0 false false) 0 0 true 2 0=.val (.agg [.int .i64 (S.aP Y M).1,.int .i64 (S.aP Y M).2]):=rfl
  refine eG (P:=fun t' df g'=>df=[]/\g'.h.get 2=.cells 2 [[.int .i64 n.grain,b]] 0 false false/\St t' [(5,.hptr 2 0 0 0),(6,w),(7,.int .i64 (W:Int)),(12,.int .i64 (S.ah n:Int)),(14,.int .i64 (Y:Int))]) ?_ ?_
  ·obtain ⟨X,hX⟩:∃X,X=S.aP Y M:=⟨_,rfl⟩
   rw[<-hX] at kF kI l3 f3
   simp only[sz,simprocAttr,sf,h8,h9,h10,h14,h15,f3,l3,kI,kF]
   refine Fv (q:=X) fun g6 f6 l6=>?_
   simp only[sz,simprocAttr]
   refine ⟨by rw[f6.2 2 (by omega),f2],by simp[St,sx,h5,h6,h7,h12,h14]⟩
  clear h5 h6 h7 h8 h9 h10 h12 h14 h15
  rintro t df g5 ⟨rfl,k2,h5,h6,h7,h12,h14,-⟩
  refine bK (P:=fun t' df g'=>df=[]/\g'=g5/\St t' (LGm w W (S.wt n W) (S.ah n))/\tat t' 92=.int .i64 0) ?_ ?_
  ·simp only[sz,simprocAttr,h12]
   simp[St,LGm,sx,h5,h6,h7,h14,hY]
  rintro t df g6 ⟨rfl,hg,ht,h92⟩
  rw[hg];clear hg
  exact EF hM hr he hw hW b2 hmax ht h92 k2
end
end Hx
end
section
namespace Hx
open Go Go.RowKit Go.ChangeShapes Go.WideShapes
def oT (P:Program):List Field->Nat->Option Nat
 | [],k=>some k
 | f::fs,k=>if f.offset=k then oT P fs (k+P.cellsOf f.type) else none
def oV (P:Program):Nat->TypeId->Bool
 | 0,_=>false
 | n+1,t=>match P.underlying t with
  | some .bool=>true
  | some (.int _)=>true
  | some (.slice e)=>decide (0<P.cellsOf e)&&oV P n e
  | some (.struct fs)=>(oT P fs.toList 0 == some (P.cellsOf t))&&fs.toList.all (fun f=>oV P n f.type)
  | some (.array m e)=>decide (m*P.cellsOf e=P.cellsOf t)&&oV P n e
  | _=>false
def Sh (P:Program):Nat->TypeId->List AV->Prop
 | 0,_,_=>False
 | n+1,t,xs=>match P.underlying t with
  | some .bool=>∃b,xs=[.bool b]
  | some (.int k)=>∃z,xs=[.int k z]/\(Lit.int k z).wf=true
  | some (.slice e)=>xs=[.nils]\/∃rows,xs=[.tsl 0 (P.cellsOf e) rows]/\rows.length<9223372036854775808/\∀row∈rows,Sh P n e row
  | some (.struct fs)=>∃xss,xs=xss.flatten/\All2 (fun (f:Field) ys=>Sh P n f.type ys) fs.toList xss
  | some (.array m e)=>∃xss:List (List AV),xs=xss.flatten/\xss.length=m/\∀ys∈xss,Sh P n e ys
  | _=>False
def yg (P:Program)(w:World)(n:Nat)(t:TypeId)(xs:List AV)(cs:List Value):Prop :=
 RVs0 w xs cs/\(∀y∈xs,y.one=true/\Closed y)/\Sh P n t xs
theorem RVs0.append {w:World}{xs ys:List AV}{cs ds:List Value}(h:RVs0 w xs cs)(h':RVs0 w ys ds):RVs0 w (xs++ys) (cs++ds):=by
 refine ⟨by rw[List.length_append,List.length_append,h.1,h'.1],fun i x v hx hv=>?_⟩
 rcases Nat.lt_or_ge i xs.length with hi | hi
 ·rw[List.getElem?_append_left hi] at hx
  rw[List.getElem?_append_left (by rw[<-h.1];exact hi)] at hv
  exact h.2 i x v hx hv
 ·rw[List.getElem?_append_right hi] at hx
  rw[List.getElem?_append_right (by rw[<-h.1];exact hi),<-h.1] at hv
  exact h'.2 _ x v hx hv
theorem Ad (b o n:Nat):(⟨b,o,none⟩:Addr).add n=adr b (o+n):=by
 unfold Addr.add
 split
 ·rename_i h;subst h;rfl
 ·rfl
variable {H:Type}{enc:TypeId×Value->H}{P:Program}{w:World}
theorem u7:∀{fl:List Field} {k K:Nat},oT P fl k=some K->k<=K
 | [],k,K,h=>by injection h with h;omega
 | f::fl,k,K,h=>by
  unfold oT at h
  split at h
  ·have:=u7 h;omega
  ·cases h
theorem CZ {n:Nat}{cs:List Value}:∀{fl:List Field} {k K:Nat},oT P fl k=some K ->
  (∀f∈fl,∃xs,yg P w n f.type xs ((cs.drop f.offset).take (P.cellsOf f.type))) ->
  ∃xss,All2 (fun (f:Field) ys=>Sh P n f.type ys) fl xss/\RVs0 w xss.flatten ((cs.drop k).take (K - k))/\∀y∈xss.flatten,y.one=true/\Closed y
 | [],k,K,h,_=>by
  injection h with h;subst h
  exact ⟨[],trivial,by rw[Nat.sub_self,List.take_zero];exact ⟨rfl,fun i x v hx=>by simp at hx⟩,fun y hy=>by simp at hy⟩
 | f::fl,k,K,h,hg=>by
  unfold oT at h
  split at h
  ·rename_i ho
   subst ho
   obtain ⟨xs,h1,h2,h3⟩:=hg f (by simp)
   obtain ⟨xss,a1,a2,a3⟩:=CZ h fun f' hf'=>hg f' (by simp[hf'])
   have hle:=u7 h
   refine ⟨xs::xss,⟨h3,a1⟩,?_,fun y hy=>?_⟩
   ·have e:(cs.drop f.offset).take (K - f.offset)=(cs.drop f.offset).take (P.cellsOf f.type)++(cs.drop (f.offset+P.cellsOf f.type)).take (K - (f.offset+P.cellsOf f.type)):=by
     rw[show K - f.offset=P.cellsOf f.type+(K - (f.offset+P.cellsOf f.type)) by omega,List.take_add,List.drop_drop]
    rw[e,List.flatten_cons]
    exact h1.append a2
   ·rw[List.flatten_cons,List.mem_append] at hy
    rcases hy with hy | hy
    ·exact h2 y hy
    ·exact a3 y hy
  ·cases h
theorem Aj {n:Nat}{e:TypeId}{cs:List Value}:∀{m k:Nat},
  (∀i,i<m->∃xs,yg P w n e xs ((cs.drop ((k+i)*P.cellsOf e)).take (P.cellsOf e))) ->
  ∃xss:List (List AV),xss.length=m/\(∀ys∈xss,Sh P n e ys)/\RVs0 w xss.flatten ((cs.drop (k*P.cellsOf e)).take (m*P.cellsOf e))/\∀y∈xss.flatten,y.one=true/\Closed y
 | 0,k,_=>⟨[],rfl,fun y hy=>by simp at hy,by rw[Nat.zero_mul,List.take_zero];exact ⟨rfl,fun i x v hx=>by simp at hx⟩,fun y hy=>by simp at hy⟩
 | m+1,k,hg=>by
  obtain ⟨xs,h1,h2,h3⟩:=hg 0 (by omega)
  rw[Nat.add_zero] at h1
  obtain ⟨xss,a0,a1,a2,a3⟩:=Aj (m:=m) (k:=k+1) fun i hi=>by
   have:=hg (i+1) (by omega)
   rwa [show k+(i+1)=k+1+i by omega] at this
  refine ⟨xs::xss,by simp[a0],fun ys hy=>?_,?_,fun y hy=>?_⟩
  ·rcases List.mem_cons.1 hy with rfl | hy
   ·exact h3
   ·exact a1 ys hy
  ·have e:(cs.drop (k*P.cellsOf e)).take ((m+1)*P.cellsOf e)=(cs.drop (k*P.cellsOf e)).take (P.cellsOf e)++(cs.drop ((k+1)*P.cellsOf e)).take (m*P.cellsOf e):=by
    rw[show (m+1)*P.cellsOf e=P.cellsOf e+m*P.cellsOf e by rw[Nat.add_mul];omega,List.take_add,List.drop_drop,Nat.add_mul,Nat.one_mul]
   rw[e,List.flatten_cons]
   exact h1.append a2
  ·rw[List.flatten_cons,List.mem_append] at hy
   rcases hy with hy | hy
   ·exact h2 y hy
   ·exact a3 y hy
theorem D7:∀(n:Nat) (t:TypeId),oV P n t=true->∀(fuel:Nat) (cs:List Value) (x:DataW H×List MemPlace),DataW.trod enc P w 0 (fun _=>true) true fuel t cs=some x->∃xs,yg P w n t xs cs:=by
 intro n
 induction n with
 | zero=>intro t h;simp[oV] at h
 | succ n ih =>
  intro t h fuel cs x hx
  unfold oV at h
  split at h
  ·rename_i hu
   obtain ⟨b,rfl,-⟩:=DataW.trod_bool hu hx
   refine ⟨[.bool b],⟨rfl,fun i x v h1 h2=>?_⟩,fun y hy=>?_,?_⟩
   ·cases i with
    | zero=>simp at h1 h2;subst h1;subst h2;exact .bool _ _
    | succ i=>simp at h1
   ·simp at hy;subst hy;exact ⟨rfl,.bool _⟩
   ·unfold Sh;rw[hu];exact ⟨b,rfl⟩
  ·rename_i k hu
   obtain ⟨z,rfl,-,hwf⟩:=DataW.trod_int hu hx
   refine ⟨[.int k z],⟨rfl,fun i x v h1 h2=>?_⟩,fun y hy=>?_,?_⟩
   ·cases i with
    | zero=>simp at h1 h2;subst h1;subst h2;exact .int _ _ _
    | succ i=>simp at h1
   ·simp at hy;subst hy;exact ⟨rfl,.int _ _⟩
   ·unfold Sh;rw[hu];exact ⟨z,rfl,hwf⟩
  ·rename_i e hu
   rw[Bool.and_eq_true,decide_eq_true_eq] at h
   obtain ⟨hpos,hp⟩:=h
   rcases DataW.trod_slice hu hx with ⟨rfl,-⟩ | ⟨a,len,cap,elems,rest,m,-,rfl,-,-,hlc,hcm,hlen,hel,-,-⟩
   ·refine ⟨[.nils],⟨rfl,fun i x v h1 h2=>?_⟩,fun y hy=>?_,?_⟩
    ·cases i with
     | zero=>simp at h1 h2;subst h1;subst h2;exact .nils _
     | succ i=>simp at h1
    ·simp at hy;subst hy;exact ⟨rfl,.nils⟩
    ·unfold Sh;rw[hu];exact .inl rfl
   ·have each:∀i,i<len->∃xs vs,w.cells? 0 (a.add (i*P.cellsOf e)) (P.cellsOf e)=some vs/\yg P w n e xs vs:=by
     intro i hi
     have:=hel i hi
     rw[List.getElem?_eq_getElem (show i<elems.length by omega),Option.bind_eq_some_iff] at this
     obtain ⟨vs,h1,h2⟩:=this
     obtain ⟨xs,hg⟩:=ih e hp _ _ _ h2
     exact ⟨xs,vs,h1,hg⟩
    let rowf:Nat->List AV:=fun i=>if hi:i<len then Classical.choose (each i hi) else []
    let valf:Nat->List Value:=fun i=>if hi:i<len then Classical.choose (Classical.choose_spec (each i hi)) else []
    have hrow:∀i,i<len->w.cells? 0 (a.add (i*P.cellsOf e)) (P.cellsOf e)=some (valf i)/\yg P w n e (rowf i) (valf i):=by
     intro i hi
     have:=Classical.choose_spec (Classical.choose_spec (each i hi))
     simpa only[rowf,valf,dif_pos hi] using this
    have hget:∀(i:Nat) (row:List AV),((List.range len).map rowf)[i]?=some row->i<len/\row=rowf i:=by
     intro i row h1
     rw[List.getElem?_map] at h1
     rcases Nat.lt_or_ge i len with hi | hi
     ·rw[List.getElem?_range hi] at h1
      injection h1 with h1
      exact ⟨hi,h1.symm⟩
     ·rw[List.getElem?_eq_none (by simpa using hi)] at h1;cases h1
    refine ⟨[.tsl 0 (P.cellsOf e) ((List.range len).map rowf)],⟨rfl,fun i x v h1 h2=>?_⟩,fun y hy=>?_,?_⟩
    ·cases i with
     | succ i=>simp at h1
     | zero =>
      simp at h1 h2;subst h1;subst h2
      rcases Nat.eq_zero_or_pos len with h0 | h0
      ·subst h0
       exact .tnil 0 0 _ a cap (Nat.le_refl _)
      ·obtain ⟨b,o,spot⟩:=a
       have hc0:=World.cells?_some (hrow 0 h0).1
       have hv0:(valf 0)[0]?=some (valf 0)[0]:=List.getElem?_eq_getElem (by rw[hc0.2.1];exact hpos)
       have h00:=hc0.2.2 0 hpos
       rw[hv0] at h00
       have hspot:spot=none:=by simpa [Addr.add] using World.cell?_spot h00
       subst hspot
       have cellat:∀i j row x,((List.range len).map rowf)[i]?=some row->row[j]?=some x->∃v,(valf i)[j]?=some v/\w.cell? (adr b (o+i*P.cellsOf e+j))=some v/\RV w gm0 av0 0 x v:=by
        intro i j row x hr hxj
        obtain ⟨hi,rfl⟩:=hget i row hr
        obtain ⟨q1,q2⟩:=hrow i hi
        have hj:j<(rowf i).length:=(List.getElem?_eq_some_iff.1 hxj).1
        have hj':j<(valf i).length:=by rw[<-q2.1.1];exact hj
        have hcs:=World.cells?_some q1
        have hcell:=hcs.2.2 j (by rw[<-hcs.2.1];exact hj')
        rw[List.getElem?_eq_getElem hj'] at hcell
        refine ⟨_,List.getElem?_eq_getElem hj',?_,q2.1.2 j x _ hxj (List.getElem?_eq_getElem hj')⟩
        rw[Ad,show adr b (o+i*P.cellsOf e)=(⟨b,o+i*P.cellsOf e,none⟩:Addr) from rfl,Ad] at hcell
        exact hcell
       have hb:b<w.heap.size:=by
        have:=zw h00
        simpa [Addr.add] using this
       have hrl:((List.range len).map rowf).length=len:=by simp
       have key:=RV.tsl (w:=w) (γ:=gm0) (A:=av0) 0 0 (P.cellsOf e) ((List.range len).map rowf) b o cap (fun i j=>(valf i)[j]?.getD undef) (Nat.le_refl _) (by rw[hrl];exact hlc) hb (HJ b) (fun h=>h)
        (fun i row hr=>by
         obtain ⟨hi,rfl⟩:=hget i row hr
         obtain ⟨q1,q2⟩:=hrow i hi
         rw[q2.1.1,(World.cells?_some q1).2.1])
        (fun i j row x hr hxj=>by
         obtain ⟨hi,rfl⟩:=hget i row hr
         exact ((hrow i hi).2.2.1 x (List.mem_of_getElem? hxj)).1)
        (fun i j row x hr hxj=>by
         obtain ⟨v,v1,v2,v3⟩:=cellat i j row x hr hxj
         rw[v2,v1];rfl)
        (fun i j row x hr hxj=>by
         obtain ⟨v,v1,v2,v3⟩:=cellat i j row x hr hxj
         rw[v1];exact v3)
        (fun row hr x hx=>by
         obtain ⟨i,hi⟩:=List.getElem?_of_mem hr
         obtain ⟨hi2,rfl⟩:=hget i row hi
         exact ((hrow i hi2).2.2.1 x hx).2)
       rw[hrl] at key
       exact key
    ·simp only[List.mem_singleton] at hy;subst hy
     refine ⟨rfl,.tsl _ _ _ fun row hr x hx=>?_⟩
     obtain ⟨i,hi⟩:=List.getElem?_of_mem hr
     obtain ⟨hi2,rfl⟩:=hget i row hi
     exact ((hrow i hi2).2.2.1 x hx).2
    ·unfold Sh;rw[hu]
     refine .inr ⟨_,rfl,?_,fun row hr=>?_⟩
     ·rw[List.length_map,List.length_range]
      have:maxLen<9223372036854775808:=by decide
      omega
     ·obtain ⟨i,hi⟩:=List.getElem?_of_mem hr
      obtain ⟨hi2,rfl⟩:=hget i row hi
      exact (hrow i hi2).2.2.2
  ·rename_i fs hu
   rw[Bool.and_eq_true] at h
   obtain ⟨hc,hp⟩:=h
   have hc:oT P fs.toList 0=some (P.cellsOf t):=eq_of_beq hc
   obtain ⟨ys,m,-,-,hl,hyl,hel⟩:=DataW.trod_struct hu hx
   obtain ⟨xss,a1,a2,a3⟩:=CZ (w:=w) (n:=n) (cs:=cs) hc fun f hf=>by
    obtain ⟨i,hi,e⟩:=List.mem_iff_getElem.1 hf
    have hfi:fs[i]?=some f:=by rw[<-Array.getElem?_toList,List.getElem?_eq_getElem hi,e]
    have:=hel i f hfi
    rw[List.getElem?_eq_getElem (show i<ys.length by rw[hyl];simpa using hi)] at this
    exact ih f.type (List.all_eq_true.1 hp f hf) _ _ _ this
   rw[List.drop_zero,Nat.sub_zero,<-hl,List.take_length] at a2
   refine ⟨xss.flatten,a2,a3,?_⟩
   unfold Sh;rw[hu];exact ⟨xss,rfl,a1⟩
  ·rename_i m e hu
   rw[Bool.and_eq_true,decide_eq_true_eq] at h
   obtain ⟨hc,hp⟩:=h
   obtain ⟨ys,q,-,-,hl,hyl,hel⟩:=DataW.trod_array hu hx
   obtain ⟨xss,a0,a1,a2,a3⟩:=Aj (w:=w) (n:=n) (e:=e) (cs:=cs) (m:=m) (k:=0) fun i hi=>by
    have:=hel i hi
    rw[List.getElem?_eq_getElem (show i<ys.length by omega)] at this
    rw[Nat.zero_add]
    exact ih e hp _ _ _ this
   rw[Nat.zero_mul,List.drop_zero,hc,<-hl,List.take_length] at a2
   refine ⟨xss.flatten,a2,a3,?_⟩
   unfold Sh;rw[hu];exact ⟨xss,rfl,a0,a1⟩
  ·cases h
theorem jl {n:Nat}{t:TypeId}{xs:List AV}(hu:P.underlying t=some (.int .u8))(h:Sh P n t xs):∃x:UInt8,Rp.rp NoP 0 .nil x xs:=by
 cases n with
 | zero=>exact h.elim
 | succ n =>
  unfold Sh at h;rw[hu] at h
  obtain ⟨z,rfl,hw⟩:=h
  simp only[Lit.wf,IntKind.min,IntKind.max,IntKind.signed,IntKind.bits,Bool.and_eq_true] at hw
  refine ⟨UInt8.ofNat z.toNat,fe.2 ?_⟩
  have h1:0<=z:=by simpa using hw.1
  have h2:z<=255:=by simpa using hw.2
  have h3:(UInt8.ofNat z.toNat).toNat=z.toNat:=UInt8.toNat_ofNat_of_lt' (by show z.toNat<256;omega)
  rw[h3,Int.toNat_of_nonneg h1]
theorem we {α:Type} [Rp α]{n:Nat}{t e:TypeId}{xs:List AV}(hu:P.underlying t=some (.slice e))(hsz:P.cellsOf e=Rp.sz α)(hel:∀ys,Sh P n e ys->∃y:α,Rp.rp NoP 0 .nil y ys)(h:Sh P (n+1) t xs) :
  ∃l:List α,Rp.rp NoP 0 .nil l xs:=by
 unfold Sh at h;rw[hu] at h
 rcases h with rfl | ⟨rows,rfl,hl,hr⟩
 ·exact ⟨[],.nils,rfl,by simp,rfl⟩
 ·have:∀rows:List (List AV),(∀row∈rows,Sh P n e row)->∃l:List α,All2 (Rp.rp NoP 0 .nil) l rows:=by
   intro rows
   induction rows with
   | nil=>intro _;exact ⟨[],trivial⟩
   | cons r rows ih =>
    intro h
    obtain ⟨y,hy⟩:=hel r (h r (by simp))
    obtain ⟨l,hl⟩:=ih fun row hrow=>h row (by simp[hrow])
    exact ⟨y::l,hy,hl⟩
  obtain ⟨l,ha⟩:=this rows hr
  exact ⟨l,_,rfl,by rw[ha.len];exact hl,Nat.le_refl _,.inl hsz,ha⟩
theorem El {n m:Nat}{t e:TypeId}{xs:List AV}(hu:P.underlying t=some (.array m e))(h:Sh P (n+1) t xs):∃xss:List (List AV),xs=xss.flatten/\xss.length=m/\∀ys∈xss,Sh P n e ys:=by
 unfold Sh at h;rw[hu] at h;exact h
theorem qq {n:Nat}{t:TypeId}{fs:Array Field}{xs:List AV}(hu:P.underlying t=some (.struct fs))(h:Sh P (n+1) t xs):∃xss,xs=xss.flatten/\All2 (fun (f:Field) ys=>Sh P n f.type ys) fs.toList xss:=by
 unfold Sh at h;rw[hu] at h;exact h
end Hx
end
