/- A part of the proof: an interpreter over abstract values, shown right against the model, and what the functions of the chapter compute on it. -/
import Derived.OpenShut
import Derived.DataReads
import Derived.Test.YtjddchnjpobmkaaHx15
set_option linter.unusedVariables false
set_option linter.unusedSimpArgs false
set_option linter.unnecessarySimpa false
section
namespace Hx
open Go
noncomputable section
theorem Ku {s m:Nat}{w:AV}{c:AObj}{Q:QT}{t:T}{g:G}(hm:m<=8)(hs:s<18446744073709551616)
  (ht:St t [(2,.int .u64 (s:Int)),(7,.hptr 2 0 0 0),(8,w)]) (h9:tat t 9=.nils) (h36:tat t 36=.int .i64 (m:Int)) (h37:tat t 37=.int .i64 0) (k2:g.h.get 2=c) (hgn:3<=g.nx)
  (fin:∀t g' u,St t [(7,.hptr 2 0 0 0),(8,w),(9,u)]->Own g' 3 u 1 ((S.aA s m).map ci)->g'.h.get 2=c->3<=g'.nx->Q (.exit 0) t [] g'):wpL (wp C0 1 none eF) Q t [] g:=by
 simp only[eF,iZ]
 refine aJ (m:=m) (by omega) (fun j t df g'=>df=[]/\St t [(2,.int .u64 (s:Int)),(7,.hptr 2 0 0 0),(8,w)]/\(∃u,tat t 9=u/\Own g' 3 u 1 ((S.aA s j).map ci))/\g'.h.get 2=c/\3<=g'.nx)
  ⟨rfl,ht,⟨_,h9,.inl ⟨rfl,rfl⟩⟩,k2,hgn⟩ h37 h36 (by decide) ?_ ?_ ?_
 ·rintro j t df g' v s hs ⟨a1,⟨b1,b2,b3,-⟩,⟨u,a2,a3⟩,a4⟩
  refine ⟨a1,?_,⟨u,?_,a3⟩,a4⟩<;>rcases hs with rfl | rfl | rfl<;>simp[St,sx, *]
 ·rintro j t df g1 hj ⟨rfl,⟨h2,h7,h8,-⟩,⟨u,h9,hu⟩,k2,hgn⟩ h37 h36
  have h2n:s / 2 ^ j<18446744073709551616:=Nat.lt_of_le_of_lt (Nat.div_le_self _ _) hs
  have ha:ct .and (.int .u64 ((s / 2 ^ j:Nat):Int)) (.int .u64 1)=.val (.int .u64 ((s / 2 ^ j &&& 1:Nat):Int)):=Ap (s / 2 ^ j) 1 h2n (by decide)
  have hbl:=qw s j
  simp only[sz,simprocAttr,h2,h37,vE _ _ _ hs,ha,Ld]
  cases hb:s.testBit j with
  | false =>
   simp only[sz,simprocAttr]
   have e:S.aA s (j+1)=S.aA s j:=by rw[dS,hb];simp
   exact ⟨⟨by simp[St,sx,h2,h7,h8],⟨u,by simp[sx,h9],by rw[e];exact hu⟩,k2,hgn⟩,h37,h36⟩
  | true =>
   have e:S.aA s (j+1)=S.aA s j++[(j:Int)]:=by rw[dS,hb];simp
   simp only[sz,simprocAttr,h9,h37]
   refine bZ (b:=3) (rows:=(S.aA s j).map ci) (new:=[ci (j:Int)]) (hu.step (Fr.new _ _)) (by simp[sx,sy,ci]) (by simp;omega) (by unfold a_;simp;omega) fun u' g2 hu' n2 f2 _ _=>?_
   simp only[sz,simprocAttr]
   simp only[G.new_nx] at n2
   refine ⟨⟨by simp[St,sx,h2,h7,h8],⟨u',rfl,by rw[e,List.map_append];exact hu'⟩,?_,by omega⟩,h37,h36⟩
   rw[f2 2 (by simp;omega) fun e=>by have:=(hu.lt e).1;omega]
   simp[H.get_put,show ¬2=g1.nx by omega,k2]
 ·rintro t df g' ⟨rfl,⟨-,h7,h8,-⟩,⟨u,h9,hu⟩,k2,hgn⟩
  exact fin t g' u ⟨h7,h8,h9,trivial⟩ hu k2 hgn
def LSm (w a3:AV)(W j:Nat)(wt:Int):List (Nat×AV):=[(7,.hptr 2 0 0 0),(8,w),(147,a3),(148,.int .i64 (W:Int)),(149,.int .i64 (j:Int)),(21,.int .i64 (j:Int)),(22,.int .i64 wt)]
theorem KE {e vals:List Int}{w z a3:AV}{W i:Nat}{wt:Int}{Q:QT}{t:T}{g:G}(he:SlR NoP 0 .nil e w)(hz:∀h,am h 1 z=some (vals.map ci))(hl:vals.length=e.length)(hlb:e.length<=8)(hwt:S.aU vals e=false->wt=0)
  (ht:St t (LSm w a3 W i wt)) (h23:tat t 23=z) (h169:tat t 169=w) (h170:tat t 170=.int .i64 (e.length:Int)) (h171:tat t 171=.int .i64 0)
  (fin:∀t,St t (LSm w a3 W i wt)->tat t 23=(if S.aU vals e then z else .nils)->Q (.exit 6) t [] g):wpL (wp C0 1 none eN) Q t [] g:=by
 have re:∀h,am h 1 w=some (e.map ci):=fun h=>(he.tree (h':=h) (Nat.le_refl 0):SlR NoP 0 h e w).ints
 simp only[eN]
 refine aJ (m:=e.length) (by omega) (fun j t df g'=>df=[]/\g'=g/\St t (LSm w a3 W i wt)/\tat t 23=z/\tat t 169=w/\S.mt vals e j=true)
  ⟨rfl,rfl,ht,h23,h169,rfl⟩ h171 h170 (by decide) ?_ ?_ ?_
 ·rintro j t df g' v s hs ⟨a1,a2,⟨b1,b2,b3,b4,b5,b6,b7,-⟩,a4,a5,a6⟩
  refine ⟨a1,a2,?_,?_,?_,a6⟩<;>rcases hs with rfl | rfl | rfl<;>simp[St,LSm,sx, *]
 ·rintro j t df g' hj ⟨rfl,rfl,⟨h7,h8,h147,h148,h149,h21,h22,-⟩,h23,h169,hmt⟩ h171 h170
  obtain ⟨y,hy,-,-⟩:=au hj
  obtain ⟨x,hx,-,-⟩:=au (l:=vals) (j:=j) (by omega)
  have q1:j<(e.map ci).length:=by simpa using hj
  have q2:(e.map ci)[j]?=some (ci y):=by rw[List.getElem?_map,hy];rfl
  have q3:j<(vals.map ci).length:=by simp;omega
  have q4:(vals.map ci)[j]?=some (ci x):=by rw[List.getElem?_map,hx];rfl
  have hm:S.bj vals e j=(decide (y<0) || decide (y=x)):=by simp[S.bj,hx,hy]
  have ms:=Kl vals e j
  rw[hm,hmt,Bool.true_and] at ms
  by_cases c1:y<0
  ·have c1':¬0<=y:=by omega
   rw[decide_eq_true c1,Bool.true_or] at ms
   simp only[sz,simprocAttr,h169,h171,re,q1,q2,ci,c1']
   simp[St,LSm,sx,h7,h8,h147,h148,h149,h21,h22,h23,h169,h170,h171,ms]
  ·have c1':0<=y:=by omega
   rw[decide_eq_false c1,Bool.false_or] at ms
   by_cases c2:x=y
   ·rw[decide_eq_true c2.symm] at ms
    simp only[sz,simprocAttr,h169,h171,re,q1,q2,ci,c1',h23,hz,q3,q4,c2]
    simp[St,LSm,sx,h7,h8,h147,h148,h149,h21,h22,h23,h169,h170,h171,ms]
   ·have hmf:S.aU vals e=false:=by
     cases hh:S.aU vals e with
     | false=>rfl
     | true =>
      have:=KH.1 hh j hj
      rw[hy,hx] at this
      simp only[Option.getD_some] at this
      omega
    have hw0:=hwt hmf
    rw[hw0] at h22
    simp only[sz,simprocAttr,h169,h171,re,q1,q2,ci,c1',h23,hz,q3,q4,c2,h22]
    refine fin _ ?_ ?_
    ·rw[hw0];simp[St,LSm,sx, *]
    ·rw[hmf];simp[sx]
 ·rintro t df g' ⟨rfl,rfl,ht,h23,-,hmt⟩
  exact fin t ht (by rw[h23,if_pos (show S.aU vals e=true from hmt)])
theorem JF {n:Net}{e L:List Int}{b w a3:AV}{Q:QT}{t:T}{g:G}(hM:∀h,Agg n NoP 0 h (.agg [.int .i64 n.grain,b]))(hr:NR n)(hel:e.length=n.nodes.length)(hw:SlR NoP 0 .nil e w)
  (rW:∀h,am h 1 a3=some (L.map ci)) (hL:L.length=S.an n) (hLa:∀j,j<S.an n->L[j]?=some (if S.pe n e j then S.wt n j else 0))
  (ht:St t [(7,.hptr 2 0 0 0),(8,w),(147,a3)]) (h148:tat t 148=.int .i64 (S.an n:Int)) (h149:tat t 149=.int .i64 0) (k2:g.h.get 2=.cells 2 [[.int .i64 n.grain,b]] 0 false false) (hgn:3<=g.nx)
  (fin:∀t g',Q (.exit 4) t [] g'):wpL (wp C0 1 none eZ) Q t [] g:=by
 have hl2:=hr.l2
 have hl1:=hr.l1
 have hwl:=hr.wl
 have ld2:aI (.cells 2 [[.int .i64 n.grain,b]] 0 false false) 0 0 true 2 0=.val (.agg [.int .i64 n.grain,b]):=rfl
 have le:=hw.len
 simp only[eZ,jh]
 refine aJ (m:=S.an n) (by omega) (fun j t df g'=>df=[]/\St t [(7,.hptr 2 0 0 0),(8,w),(147,a3)]/\g'.h.get 2=.cells 2 [[.int .i64 n.grain,b]] 0 false false/\3<=g'.nx)
  ⟨rfl,ht,k2,hgn⟩ h149 h148 (by decide) ?_ ?_ ?_
 ·rintro j t df g' v s hs ⟨a1,⟨b1,b2,b3,-⟩,a4⟩
  refine ⟨a1,?_,a4⟩
  rcases hs with rfl | rfl | rfl<;>simp[St,sx, *]
 ·rintro j t df g1 hj ⟨rfl,⟨h7,h8,h147,-⟩,k2,hgn⟩ h149 h148
  obtain ⟨wt,hwt⟩:∃wt,wt=(if S.pe n e j then S.wt n j else 0):=⟨_,rfl⟩
  have hLj:=hLa j hj
  rw[<-hwt] at hLj
  have u1:j<(L.map ci).length:=by simp;omega
  have u2:(L.map ci)[j]?=some (ci wt):=by rw[List.getElem?_map,hLj];rfl
  have hvl:=gi (S.ac n) (j:Int)
  rw[aG] at hvl
  refine bk (P:=fun t' df g'=>df=[]/\g'=g1/\St t' (LSm w a3 (S.an n) j wt)) ?_ ?_
  ·simp only[sz,simprocAttr,h147,h149,rW,u1,u2,ci]
   simp[St,LSm,sx, *]
  clear h7 h8 h147 h148 h149
  rintro t df g2 ⟨rfl,hg,h7,h8,h147,h148,h149,h21,h22,-⟩
  rw[hg];clear hg
  refine bk (P:=fun t' df g'=>df=[]/\g'=g1/\∃z,IT 0 (S.ak (S.ac n) (j:Int)) z/\St t' ((23,z)::(24,.int .i64 0)::LSm w a3 (S.an n) j wt)) ?_ ?_
  ·simp only[sz,simprocAttr,h7,h21,k2,ld2]
   refine cI (C4 (d:=1) (by decide) (hM _) hr hj) ?_
   rintro _ ⟨z,rfl,hz⟩
   simp only[sz,simprocAttr]
   exact ⟨z,hz,by simp[St,LSm,sx, *]⟩
  clear h7 h8 h147 h148 h149 h21 h22
  rintro t df g2 ⟨rfl,hg,z,hz,h23,h24,h7,h8,h147,h148,h149,h21,h22,-⟩
  rw[hg];clear hg
  have hzs:SlR NoP 0 .nil (S.ak (S.ac n) (j:Int)) z:=hz.sl _
  have lz:=hzs.len
  rw[hvl,<-hel] at lz
  refine cV (P:=fun t' df g'=>df=[]/\g'=g1/\St t' ((23,z)::LSm w a3 (S.an n) j wt)) ?_ ?_
  ·simp only[sz,simprocAttr,h23,h24,h8,lz,le]
   simp[St,LSm,sx, *]
  clear h23 h24 h7 h8 h147 h148 h149 h21 h22
  rintro t df g2 ⟨rfl,hg,h23,h7,h8,h147,h148,h149,h21,h22,-⟩
  rw[hg];clear hg
  refine cV (P:=fun t' df g'=>df=[]/\g'=g1/\St t' (LSm w a3 (S.an n) j wt)/\tat t' 23=(if S.pe n e j then z else .nils)) ?_ ?_
  ·simp only[sz,simprocAttr,h8,le]
   refine KE (e:=e) (vals:=S.ak (S.ac n) (j:Int)) (w:=w) (z:=z) (a3:=a3) (W:=S.an n) (i:=j) (wt:=wt) hw (fun h=>hz.rows h) (by rw[hvl,hel]) (by omega) (fun h=>by rw[hwt,if_neg (by rw[show S.pe n e j=S.aU (S.ak (S.ac n) (j:Int)) e from rfl,h];decide)]) (by simp[St,LSm,sx, *]) (by simp[sx,h23]) (by simp[sx]) (by simp[sx]) (by simp[sx]) ?_
   intro t2 ht2 h23
   simp only[sz,simprocAttr]
   exact ⟨ht2,h23⟩
  clear h23 h7 h8 h147 h148 h149 h21 h22
  rintro t df g2 ⟨rfl,hg,⟨h7,h8,h147,h148,h149,h21,h22,-⟩,h23⟩
  rw[hg];clear hg
  simp only[i8]
  cases hp:S.pe n e j with
  | false =>
   rw[hp,if_neg (by decide)] at h23
   have e0:zZ true .slice .nils .nils=.val (.bool false):=rfl
   simp only[sz,simprocAttr,sf,h23,e0]
   refine ⟨?_,?_,h149,h148⟩
   rotate_left
   ·exact ⟨by simp[St,sx,h7,h8,h147],by simpa using k2⟩
   simp only[List.reverse_cons,List.reverse_nil,List.nil_append,List.cons_append]
   exact aL (List.replicate 13 false) [] (by simp[All2,ae,aA,C3,List.replicate]) (by decide) (by simp)
  | true =>
   rw[hp,if_pos rfl] at h23 hwt
   have hzne:zZ true .slice z .nils=.val (.bool true):=by
    have h:=hzs.2
    unfold SlV at h
    split at h
    ·have:=congrArg List.length h;rw[hvl,List.length_nil] at this;omega
    ·have:=congrArg List.length h;rw[hvl,List.length_nil] at this;omega
    ·rfl
    ·exact h.1.elim
    ·exact h.elim
   have kI:=fun g=>Jv (d:=1) (g:=g) (q:=wt) (by decide)
   have kW:∀g,an C0 1 N.ay [.agg [.int .i64 n.grain,b],.int .i64 (j:Int)] g=.val (.tup [.int .i64 wt,.int .i64 0]):=fun g=>by
    rw[CO (d:=1) (by decide) (hM _) hr hj,hwt]
   simp only[sz,simprocAttr,sf,h23,hzne,h22,h7,h21,k2,ld2,kI,kW]
   refine EF (q:=wt) fun g5 f5 l5=>?_
   have f51:=f5.1
   simp only[bumpG_nx,setLog_nx] at f51
   simp only[sz,simprocAttr,sf,nI,uP]
   refine ⟨?_,?_,h149,h148⟩
   rotate_left
   ·refine ⟨by simp[St,sx,h7,h8,h147],?_⟩
    rw[f5.2 2 (by simp)];simp[k2]
   ·simp only[List.reverse_cons,List.reverse_nil,List.nil_append,List.cons_append]
    exact aL [false,false,false,false,false,false,false,false,false,false,true,false,false] [] (by simp[All2,ae,aA,C3]) (by decide) (by simp)
 ·rintro t df g' ⟨rfl,-⟩
  exact fin t g'
theorem Kj {h:H}{id ep m:Nat}{lo fz:Bool}{rows:List (List AV)}{l:List Int}(hg:h.get id=.cells 1 rows ep lo fz)(hm:m<=rows.length)(hr:rows.take m=l.map ci)(hl:l.length<=1000):SlR (fun _=>True) 0 h l (.hsl id ep 0 m none):=by
 refine ⟨by omega,trivial,l.map ci,?_,All2.of_map (fun a=>ay.2 rfl) _⟩
 show am h 1 _=_
 rw[cE,hg,cx,if_pos (by omega),List.drop_zero,hr]
theorem Mk {n:Net}(hr:NR n)(e:List Int){vars:List Int}(hv:S.ax vars n.nodes.length=true)(k:Nat) :
  (⟨(S.tb n e vars).vars.eraseIdx k,S.af (S.tb n e vars).cards (S.aF (S.tb n e vars).vars.length k),S.gl (S.tb n e vars) (S.aF (S.tb n e vars).vars.length k) (S.tb n e vars).w.length⟩:Factor)=S.tb n e (vars.eraseIdx k):=by
 have e1:=Ml hr e hv k
 have e2:=BJ (S.ac n) vars k
 show (⟨vars.eraseIdx k,S.af (S.ae (S.ac n) vars) (S.aF vars.length k),S.gl (S.tb n e vars) (S.aF vars.length k) (S.tb n e vars).w.length⟩:Factor)=⟨vars.eraseIdx k,S.ae (S.ac n) (vars.eraseIdx k),S.aG n e (vars.eraseIdx k) (S.an n)⟩
 rw[e1,e2]
theorem EP {n:Net}{e vars:List Int}(hr:S.aB n e=0)(hv:S.ax vars n.nodes.length=true):S.ba n e vars=0/\S.bh n e vars=S.tb n e vars:=by
 have h:S.ba n e vars=0:=by rw[S.ba,if_pos hr,if_pos hv]
 exact ⟨h,by rw[S.bh,if_pos h];rfl⟩
def LSo (w u:AV)(q:Nat):List (Nat×AV):=[(7,.hptr 2 0 0 0),(8,w),(9,u),(11,.hptr q 0 0 0)]
theorem Kx {n:Net}{e vars:List Int}{b w u a1 a2 a3:AV}{q:Nat}{Q:QT}{t:T}{g:G}(hM:∀h,Agg n NoP 0 h (.agg [.int .i64 n.grain,b]))(hr:NR n)(r1:S.aB n e=0)(hw:SlR NoP 0 .nil e w)
  (hv:S.ax vars n.nodes.length=true) (ha:Rp.rp NoP 0 .nil (S.tb n e vars) [a1,a2,a3]) (hu:Own g 3 u 1 (vars.map ci)) (htot:S.aY n e<=171992678400000000)
  (ht:St t ((84,u)::LSo w u q)) (h85:tat t 85=.int .i64 (vars.length:Int)) (h86:tat t 86=.int .i64 0) (k2:g.h.get 2=.cells 2 [[.int .i64 n.grain,b]] 0 false false) (kq:g.h.get q=.cells 3 [[a1,a2,a3]] 0 false false) (hq:q<g.nx) (hgn:3<=g.nx)
  (fin:∀t g',St t (LSo w u q)->Fr g g'->Q (.exit 2) t [] g'):wpL (wp C0 1 none eK) Q t [] g:=by
 have hl2:=hr.l2
 have hvl:=b_ hv (by omega)
 have ld2:aI (.cells 2 [[.int .i64 n.grain,b]] 0 false false) 0 0 true 2 0=.val (.agg [.int .i64 n.grain,b]):=rfl
 have ld3:aI (.cells 3 [[a1,a2,a3]] 0 false false) 0 0 true 3 0=.val (.agg [a1,a2,a3]):=rfl
 simp only[eK]
 refine aJ (m:=vars.length) (by omega) (fun j t df g'=>df=[]/\St t ((84,u)::LSo w u q)/\Fr g g')
  ⟨rfl,ht,Fr.refl g⟩ h86 h85 (by decide) ?_ ?_ ?_
 ·rintro j t df g' v s hs ⟨a1,⟨b1,b2,b3,b4,b5,-⟩,a4⟩
  refine ⟨a1,?_,a4⟩
  rcases hs with rfl | rfl | rfl<;>simp[St,LSo,sx, *]
 ·rintro j t df g1 hj ⟨rfl,⟨h84,h7,h8,h9,h11,-⟩,hf1⟩ h86 h85
  have n1:=hf1.1
  obtain ⟨id0,ep0,lo0,i1,i2,hu0,hg0⟩:∃id0 ep0 lo0,3<=id0/\id0<g1.nx/\u=.hsl id0 ep0 0 vars.length none/\g1.h.get id0=.cells 1 (vars.map ci) ep0 lo0 false:=by
   rcases hu with ⟨-,e⟩ | ⟨id,ep,lo,h1,h2,h3,h4⟩
   ·have:=congrArg List.length e
    rw[List.length_map,List.length_nil] at this
    omega
   ·rw[List.length_map] at h3
    exact ⟨id,ep,lo,h1,by omega,h3,by rw[hf1.2 id h2,h4]⟩
  obtain ⟨y,hy,-,-⟩:=au hj
  have rU:am g1.h 1 u=some (vars.map ci):=by rw[hu0,cE,hg0,<-List.length_map (f:=ci),qm]
  have v1:j<(vars.map ci).length:=by simpa using hj
  have v2:(vars.map ci)[j]?=some (ci y):=by rw[List.getElem?_map,hy];rfl
  have hry:qf u=true:=nW rU v1
  have k2':g1.h.get 2=.cells 2 [[.int .i64 n.grain,b]] 0 false false:=by rw[hf1.2 2 (by omega),k2]
  have kq':g1.h.get q=.cells 3 [[a1,a2,a3]] 0 false false:=by rw[hf1.2 q hq,kq]
  have hve:=sE hv j
  refine bk (P:=fun t' df g'=>df=[]/\g'=g1/\St t' ((15,.int .i64 (j:Int))::(16,.int .i64 y)::(85,.int .i64 (vars.length:Int))::(86,.int .i64 (j:Int))::(84,u)::LSo w u q)) ?_ ?_
  ·simp only[sz,simprocAttr,h84,h86,rU,v1,v2,ci,hry]
   simp[St,LSo,sx, *]
  clear h84 h7 h8 h9 h11 h85 h86
  rintro t df g2 ⟨rfl,hg,h15,h16,h85,h86,h84,h7,h8,h9,h11,-⟩
  rw[hg];clear hg
  refine cV (P:=fun t' df g'=>df=[]/\Fr g1 g'/\∃c1 c2 c3 q2,Rp.rp NoP 0 .nil (S.tb n e (vars.eraseIdx j)) [c1,c2,c3]/\g'.h.get q2=.cells 3 [[c1,c2,c3]] 0 false false/\q2<g'.nx/\St t' ((17,.hptr q2 0 0 0)::(18,.int .i64 0)::(16,.int .i64 y)::(85,.int .i64 (vars.length:Int))::(86,.int .i64 (j:Int))::(84,u)::LSo w u q)) ?_ ?_
  ·obtain ⟨jE,jT⟩:=EP (e:=e) r1 hve
   have w1:IntKind.wrap .i64 ((j:Int)+1)=((j+1:Nat):Int):=by rw[aC (by omega) (by omega)];rfl
   have el:(vars.eraseIdx j).length=vars.length - 1:=by rw[List.length_eraseIdx,if_pos hj]
   have h9':=h9
   rw[hu0] at h9'
   simp only[sz,simprocAttr,sf,h7,h8,h9',k2',ld2]
   refine GC (l:=vars) (by simpa using hg0) (by simp;omega) (by omega) (by omega) fun id ep lo g3 hid i3 i4 f3 lg3=>?_
   simp only[bumpG_nx,setLog_nx,setLog_lg,List.not_mem_nil,false_or] at i3 f3 lg3
   simp only[sz,simprocAttr,sf,h15,w1]
   refine HD (l:=vars) (i:=j) hj (by omega) (by simpa using hid) (by simp;omega) fun g4 rows q1 q2 q3 n4 f4 lg4 lh4=>?_
   simp only[bumpG_nx,setLog_nx] at n4 f4
   simp only[bumpG_nx,setLog_nx,setLog_lg,List.not_mem_nil,false_or] at lg4 lh4
   simp only[sz,simprocAttr,sf]
   refine cI (yR (d:=1) (n:=n) (e:=e) (vars:=vars.eraseIdx j) (kb:=0) (Pb:=fun _=>True) (by decide) (hM _) (hw.tree (Nat.le_refl 0)) (Kj (by simpa using q1) (by omega) q3 (by omega))) ?_
   rintro _ ⟨z1,z2,rfl,⟨cs,rfl,hcs⟩,hz2⟩
   rw[jE] at hz2
   rw[jT] at hcs
   obtain ⟨c1,c2,c3,rfl,-,-,-⟩:=aX.1 hcs
   rw[show z2=.int .i64 0 by have:=ay.1 hz2;injection this]
   have gid:ah g4.h af (.hsl id ep 0 (vars.length - 1) none)=[id]:=s_ q1 (l:=vars.eraseIdx j) (by rw[List.drop_zero];exact q3)
   have gid0:∀h:H,h.get id0=.cells 1 (vars.map ci) ep0 lo0 false->ah h af (.hsl id0 ep0 0 vars.length none)=[id0]:=fun h hh=>s_ hh (l:=vars) (by rw[List.drop_zero,List.take_of_length_le (by simp)])
   simp only[sz,simprocAttr,sf,gJ,fV,t6]
   have E1:List.flatMap (ah g4.h af) [.agg [.int .i64 n.grain,b],w,.hsl id ep 0 (vars.length - 1) none]=[id]:=by
    obtain ⟨zs,ez,hzs⟩:=hM g4.h
    injection ez with ez
    subst ez
    rw[List.flatMap_cons,List.flatMap_cons,List.flatMap_cons,JQ hzs,Dh (hw.tree (h':=g4.h) (Nat.le_refl 0)),gid];rfl
   have E2:List.flatMap (ah g3.h af) [.hsl id ep 0 vars.length none,.int .i64 (j:Int),.int .i64 ((j+1:Nat):Int)]=[id]:=by
    rw[List.flatMap_cons,s_ hid (l:=vars) (by rw[List.drop_zero,List.take_of_length_le (by simp)])];rfl
   have E3:List.flatMap (ah g1.h af) [.hsl id0 ep0 0 vars.length none]=[id0]:=by
    rw[List.flatMap_cons,gid0 _ hg0];rfl
   refine ⟨?_,⟨?_,fun i hi=>?_⟩,c1,c2,c3,g4.nx+1+1+1+1+1,hcs,by simp[H.get_put],by simp,by simp[St,LSo,sx,h7,h8,h9,h11,h16,h84,h85,h86]⟩
   ·simp only[E1,E2,E3,Az,G.put_lg,G.new_lg,setLog_lg,setLog_nx,bumpG_nx,List.reverse_cons,List.reverse_nil,List.nil_append,List.cons_append]
    obtain ⟨A,hA⟩:∃A,A=g4.nx+1+1+1+1+1:=⟨_,rfl⟩
    rw[<-hA]
    refine aL [false,false,false,true,false,false,false,true,false,false,false,false,true,true,false] [(0,3),(1,3),(3,4),(3,5),(3,6),(0,7),(1,7),(0,12),(1,12),(2,12),(3,12),(4,12),(5,12),(6,12),(7,12),(8,12),(9,12),(10,12),(11,12),(11,13)] (by simp[All2,ae,aA]) (by decide) ?_
    rintro p hp' x y hx hy
    simp only[List.mem_cons,List.not_mem_nil,or_false] at hp'
    have b3:∀i∈g3.lg,g1.nx<=i/\i<g3.nx:=fun i hi=>by have:=lg3 i hi;omega
    have b4:∀i∈g4.lg,g1.nx<=i/\i<g4.nx:=fun i hi=>by
     have h1:=lg4 i hi
     have h2:=lh4 i hi
     omega
    rcases hp' with rfl | rfl | rfl | rfl | rfl | rfl | rfl | rfl | rfl | rfl | rfl | rfl | rfl | rfl | rfl | rfl | rfl | rfl | rfl | rfl<;>simp at hx hy<;>subst hx<;>subst hy<;>refine FF rfl rfl rfl rfl ?_ ?_ ?_<;>intro i hi k hk<;>(try simp[ae,aA] at hi)<;>(try simp[ae,aA] at hk)<;>first | omega | (have:=b3 i hi;omega) | (have:=b4 i hi;omega) | (have:=b3 k hk;omega) | (have:=b4 k hk;omega) | (have:=b3 i hi;have:=b4 k hk;omega)
   ·simp;omega
   ·have q1:¬i=g4.nx+1+1+1+1+1:=by omega
    simp[H.get_put,q1]
    rw[f4 i (by omega) (by omega)]
    simp
    rw[f3 i (by omega)]
    simp
  clear h15 h16 h85 h86 h84 h7 h8 h9 h11
  rintro t df g2 ⟨rfl,hf2,c1,c2,c3,q2,hc,kq2,hq2,h17,h18,h16,h85,h86,h84,h7,h8,h9,h11,-⟩
  have n2:=hf2.1
  have kq3:g2.h.get q=.cells 3 [[a1,a2,a3]] 0 false false:=by rw[hf2.2 q (by omega),kq']
  refine bk (P:=fun t' df g'=>df=[]/\Fr g2 g'/\∃d1 d2 d3 q3,Rp.rp NoP 0 .nil (S.tb n e (vars.eraseIdx j)) [d1,d2,d3]/\g'.h.get q3=.cells 3 [[d1,d2,d3]] 0 false false/\St t' ((19,.hptr q3 0 0 0)::(20,.int .i64 0)::(17,.hptr q2 0 0 0)::(18,.int .i64 0)::(85,.int .i64 (vars.length:Int))::(86,.int .i64 (j:Int))::(84,u)::LSo w u q)) ?_ ?_
  ·have hso:=fun g=>Gy (d:=1) (g:=g) (k:=j) (v:=.agg [a1,a2,a3]) (f:=S.tb n e vars) (y:=y) (by decide) ⟨_,rfl,Rp.tree ha (Nat.le_refl 0)⟩ (zS hr e hv) (LI hr e hv j) hy (by rw[uh hr e hv];exact htot)
   rw[Mk hr e hv j] at hso
   simp only[sz,simprocAttr,h11,h16,kq3,ld3]
   refine cI (hso _) ?_
   rintro _ ⟨z1,z2,rfl,⟨cs,rfl,hcs⟩,hz2⟩
   obtain ⟨d1,d2,d3,rfl,-,-,-⟩:=aX.1 hcs
   rw[show z2=.int .i64 0 by have:=ay.1 hz2;injection this]
   simp only[sz,simprocAttr]
   refine ⟨⟨by simp,fun i hi=>by simp[H.get_put,show ¬i=g2.nx by omega]⟩,d1,d2,d3,g2.nx,hcs,by simp[H.get_put],by simp[St,LSo,sx,h7,h8,h9,h11,h17,h18,h84,h85,h86]⟩
  clear h17 h18 h16 h85 h86 h84 h7 h8 h9 h11
  rintro t df g3 ⟨rfl,hf3,d1,d2,d3,q3,hd,kq4,h19,h20,h17,h18,h85,h86,h84,h7,h8,h9,h11,-⟩
  have kc:g3.h.get q2=.cells 3 [[c1,c2,c3]] 0 false false:=by rw[hf3.2 q2 hq2,kq2]
  obtain ⟨_,_,_,e1,x1,x2,x3⟩:=aX.1 hc
  injection e1 with e1 e2
  injection e2 with e2 e3
  injection e3 with e3
  subst e1 e2 e3
  obtain ⟨_,_,_,e1,y1,y2,y3⟩:=aX.1 hd
  injection e1 with e1 e2
  injection e2 with e2 e3
  injection e3 with e3
  subst e1 e2 e3
  have kE1:∀g,an C0 1 N.ah [d1,c1] g=.val (.bool true):=fun g=>Cp (by decide) (y1.tree (h':=g.h) (Nat.le_refl 0)) (x1.tree (h':=g.h) (Nat.le_refl 0)) (by omega) (by omega)
  have kE2:∀g,an C0 1 N.ah [d2,c2] g=.val (.bool true):=fun g=>Cp (by decide) (y2.tree (h':=g.h) (Nat.le_refl 0)) (x2.tree (h':=g.h) (Nat.le_refl 0)) (by omega) (by omega)
  have kE3:∀g,an C0 1 N.ah [d3,c3] g=.val (.bool true):=fun g=>Cp (by decide) (y3.tree (h':=g.h) (Nat.le_refl 0)) (x3.tree (h':=g.h) (Nat.le_refl 0)) (by omega) (by omega)
  have lc1:aI (.cells 3 [[c1,c2,c3]] 0 false false) 0 0 false 1 0=.val c1:=rfl
  have lc2:aI (.cells 3 [[c1,c2,c3]] 0 false false) 0 0 false 1 1=.val c2:=rfl
  have lc3:aI (.cells 3 [[c1,c2,c3]] 0 false false) 0 0 false 1 2=.val c3:=rfl
  have le1:aI (.cells 3 [[d1,d2,d3]] 0 false false) 0 0 false 1 0=.val d1:=rfl
  have le2:aI (.cells 3 [[d1,d2,d3]] 0 false false) 0 0 false 1 1=.val d2:=rfl
  have le3:aI (.cells 3 [[d1,d2,d3]] 0 false false) 0 0 false 1 2=.val d3:=rfl
  simp only[sz,simprocAttr,h17,h18,h19,h20,kc,kq4,lc1,lc2,lc3,le1,le2,le3,kE1,kE2,kE3]
  exact ⟨⟨by simp[St,LSo,sx,h7,h8,h9,h11,h84],(hf1.trans hf2).trans hf3⟩,by simp[sx,h86],by simp[sx,h85]⟩
 ·rintro t df g' ⟨rfl,⟨-,ht⟩,hf⟩
  exact fin t g' ht hf
theorem xC {x:tS}{u1:AV}{vs:List UInt8}{s:Nat}(hx:Agg x NoP 0 .nil u1)(hv:vs.length=9)(hs:s<18446744073709551616):∃g',(I C0).call 1 N.br [u1,.agg (vs.map u8v),.int .u64 (s:Int)] G.empty=.ok (.bool true) g':=by
 obtain ⟨xs,rfl,qx⟩:=hx
 obtain ⟨a1',a2',e1,-⟩:=yP.1 qx
 have hxl:xs.length=3:=by rw[e1];rfl
 clear e1 a1' a2'
 obtain ⟨A,hA⟩:∃A,A=vs.map u8v:=⟨_,rfl⟩
 have hAl:A.length=9:=by rw[hA];simpa using hv
 rw[<-hA]
 have key:=lQ (C:=C0) (d:=1) (f:=N.br) («as»:=[.agg xs,.agg A,.int .u64 (s:Int)]) (g:=G.empty) (K:=fun v g'=>v=.bool true) rB (by simp[gR]) ?_
 ·cases hc':(I C0).call 1 N.br [.agg xs,.agg A,.int .u64 (s:Int)] G.empty with
  | fail=>rw[hc'] at key;exact key.elim
  | ok v g'=>rw[hc'] at key;exact ⟨g',by rw[show v=.bool true from key]⟩
 simp only[sz,simprocAttr,gR,mM]
 obtain ⟨g0,hg0⟩:∃g0,g0=(G.empty.new (AObj.cells xs.length [xs] 0 false false)).new (AObj.cells A.length [A] 0 false false):=⟨_,rfl⟩
 rw[<-hg0]
 have f0:g0.h.get 0=.cells 3 [xs] 0 false false:=by rw[hg0,hxl];simp[sx,H.get_put]
 have f1:g0.h.get 1=.cells 9 [A] 0 false false:=by rw[hg0,hAl];simp[sx]
 have f3:g0.nx=2:=by rw[hg0];simp[sx]
 clear hg0
 have ld0:aI (.cells 3 [xs] 0 false false) 0 0 true 3 0=.val (.agg xs):=by
  match xs,hxl with
  | [a,b,c],_=>rfl
 have lA:=ld9 hAl
 simp only[jG]
 refine cV (P:=fun t' df g'=>df=[]/\g'=g0/\St t' [(2,.int .u64 (s:Int)),(3,.hptr 0 0 0 0),(4,.hptr 1 0 0 0)]) ?_ ?_
 ·simp only[sz,simprocAttr,Bb]
  simp[St,sx]
 rintro t df g1 ⟨rfl,rfl,h2,h3,h4,-⟩
 obtain ⟨rn,en,n,hdr,cn,rfl,hcn⟩:=KT (g:=g1) (d:=1) (by decide) (Ea (P:=NoP) qx g1.h)
 obtain ⟨b,rfl,hNb⟩:=kH.1 hcn
 have hM':∀h,Agg n NoP 0 h (.agg [.int .i64 n.grain,b]):=fun h=>Ea hcn h
 have hr:=hdr.nr
 have hl8:=hr.l2
 have hcard:∀x∈n.nodes,0<x.card:=fun x hx=>by have:=hr.card x hx;omega
 refine bk (P:=fun t' df g'=>df=[]/\g'.nx=3/\St t' [(2,.int .u64 (s:Int)),(4,.hptr 1 0 0 0),(7,.hptr 2 0 0 0)]/\g'.h.get 1=.cells 9 [A] 0 false false/\g'.h.get 2=.cells 2 [[.int .i64 n.grain,b]] 0 false false) ?_ ?_
 ·simp only[sz,simprocAttr,h3,f0,ld0,en]
  simp[St,sx,h2,h4,f1,f3]
 clear f0 f1 f3 h2 h3 h4 en
 rintro t df g2 ⟨rfl,n2,⟨h2,h4,h7,-⟩,f1,f2⟩
 have ld2:aI (.cells 2 [[.int .i64 n.grain,b]] 0 false false) 0 0 true 2 0=.val (.agg [.int .i64 n.grain,b]):=rfl
 refine bk (P:=fun t' df g'=>df=[]/\g'=g2/\∃(e:List Int) (w:AV),S.aJ n e=true/\SlR NoP 0 .nil e w/\St t' [(2,.int .u64 (s:Int)),(7,.hptr 2 0 0 0),(8,w)]) ?_ ?_
 ·simp only[sz,simprocAttr,sf,h4,h7,f1,f2,lA,ld2]
  rw[hA]
  refine cI (HO (m:=n) (d:=1) (by decide) hv (hM' _) (by omega) hcard) ?_
  rintro w ⟨e,he,hw⟩
  have hw:SlR NoP 0 .nil e w:=IT.sl (k:=0) hw .nil
  simp only[sz,simprocAttr,sf]
  exact ⟨e,w,he,hw,by simp[St,sx,h2,h7]⟩
 clear h2 h4 h7 f1
 rintro t df g3 ⟨rfl,rfl,e,w,he,hw,h2,h7,h8,-⟩
 have hn:=dW.2 hr
 have l1:=wF he
 have r1:S.aB n e=0:=p_.2 ⟨hn,he⟩
 have hmb:=Bl hr e
 have htot:S.aY n e<=171992678400000000:=by have:=Jl hr e;have:=GG hr hdr.l.2;omega
 obtain ⟨M,hM⟩:=Int.eq_ofNat_of_zero_le hmb.1
 have hb:SlR NoP 0 .nil n.nodes b:=hNb.tree (Nat.le_refl 0)
 have lb:=hb.len
 have ldf:aI (.cells 2 [[.int .i64 n.grain,b]] 0 false false) 0 0 false 1 1=.val b:=rfl
 obtain ⟨vars,hvars⟩:∃vars,vars=S.aA s n.nodes.length:=⟨_,rfl⟩
 have hvp:S.ax vars n.nodes.length=true:=by rw[hvars];exact B4 _ _
 have hvl:=b_ hvp (by omega)
 refine bk (P:=fun t' df g'=>df=[]/\g'=g3/\St t' [(2,.int .u64 (s:Int)),(7,.hptr 2 0 0 0),(8,w),(9,.nils)]) ?_ ?_
 ·simp only[sz,simprocAttr]
  simp[St,sx,h2,h7,h8]
 clear h2 h7 h8
 rintro t df g4 ⟨rfl,hg,h2,h7,h8,h9,-⟩
 rw[hg];clear hg
 refine cV (P:=fun t' df g'=>df=[]/\∃u,St t' [(7,.hptr 2 0 0 0),(8,w),(9,u)]/\Own g' 3 u 1 (vars.map ci)/\g'.h.get 2=.cells 2 [[.int .i64 n.grain,b]] 0 false false/\3<=g'.nx) ?_ ?_
 ·simp only[sz,simprocAttr,h7,f2,ldf,lb]
  refine Ku (s:=s) (m:=n.nodes.length) (w:=w) (c:=.cells 2 [[.int .i64 n.grain,b]] 0 false false) hl8 hs (by simp[St,sx,h2,h7,h8]) (by simp[sx,h9]) (by simp[sx]) (by simp[sx]) f2 (by omega) ?_
  intro t g' u ht hu k2 hn3
  rw[<-hvars] at hu
  simp only[sz,simprocAttr]
  exact ⟨u,ht,hu,k2,hn3⟩
 clear h2 h7 h8 h9 f2 n2
 rintro t df g4 ⟨rfl,u,⟨h7,h8,h9,-⟩,hu,f2,n3⟩
 obtain ⟨jE,jT⟩:=EP (e:=e) r1 hvp
 simp only[jg]
 refine bk (P:=fun t' df g'=>df=[]/\Fr g4 g'/\∃a1 a2 a3 q,Rp.rp NoP 0 .nil (S.tb n e vars) [a1,a2,a3]/\g'.h.get q=.cells 3 [[a1,a2,a3]] 0 false false/\q<g'.nx/\St t' ((12,.int .i64 0)::LSo w u q)) ?_ ?_
 ·simp only[sz,simprocAttr,h7,h8,h9,f2,ld2]
  refine cI (yR (d:=1) (n:=n) (e:=e) (vars:=vars) (kb:=0) (Pb:=fun _=>True) (by decide) (hM' _) (hw.tree (Nat.le_refl 0)) (v7 (hu.fr (by simp) fun i hi=>by simp) (by omega))) ?_
  rintro _ ⟨z1,z2,rfl,⟨cs,rfl,hcs⟩,hz2⟩
  rw[jE] at hz2
  rw[jT] at hcs
  obtain ⟨a1,a2,a3,rfl,-,-,-⟩:=aX.1 hcs
  rw[show z2=.int .i64 0 by have:=ay.1 hz2;injection this]
  simp only[sz,simprocAttr]
  exact ⟨⟨by simp,fun i hi=>by simp[H.get_put,show ¬i=g4.nx by omega]⟩,a1,a2,a3,g4.nx,hcs,by simp[H.get_put],by simp,by simp[St,LSo,sx,h7,h8,h9]⟩
 clear h7 h8 h9
 rintro t df g5 ⟨rfl,hf5,a1,a2,a3,q,ha,kq,hq,h12,h7,h8,h9,h11,-⟩
 have n5:=hf5.1
 have k2:g5.h.get 2=.cells 2 [[.int .i64 n.grain,b]] 0 false false:=by rw[hf5.2 2 (by omega),f2]
 have hu5:=hu.step hf5
 have kM:∀g,an C0 1 N.aF [.agg [.int .i64 n.grain,b],w] g=.val (.tup [.int .i64 (M:Int),.int .i64 0]):=fun g=>by
  have:=Hq (d:=1) (g:=g) (n:=n) (by decide) (hM' _) (hw.tree (h':=g.h) (Nat.le_refl 0))
  rw[S.bo,if_pos r1,r1,hM] at this
  exact this
 refine bk (P:=fun t' df g'=>df=[]/\g'=g5/\St t' ((12,.int .i64 0)::(13,.int .i64 (M:Int))::(14,.int .i64 0)::LSo w u q)) ?_ ?_
 ·simp only[sz,simprocAttr,h7,h8,k2,ld2,kM]
  simp[St,LSo,sx,h7,h8,h9,h11,h12]
 clear h7 h8 h9 h11 h12
 rintro t df g6 ⟨rfl,hg,h12,h13,h14,h7,h8,h9,h11,-⟩
 rw[hg];clear hg
 have ld3:aI (.cells 3 [[a1,a2,a3]] 0 false false) 0 0 true 3 0=.val (.agg [a1,a2,a3]):=rfl
 have hA3:∀h,Agg (S.tb n e vars) NoP 0 h (.agg [a1,a2,a3]):=fun h=>⟨_,rfl,Rp.tree ha (Nat.le_refl 0)⟩
 refine cV (P:=fun t' df g'=>df=[]/\Fr g5 g'/\St t' (LSo w u q)) ?_ ?_
 ·have kC:=fun g=>Db (d:=1) (g:=g) (f:=S.tb n e vars) (by decide) (hA3 _) (zS hr e hvp)
  have kT:∀g,an C0 1 N.aw [.agg [a1,a2,a3]] g=.val (.tup [.int .i64 (M:Int),.int .i64 0]):=fun g=>by
   have:=Gk (d:=1) (g:=g) (f:=S.tb n e vars) (by decide) (hA3 _) (zS hr e hvp) (by rw[uh hr e hvp];exact htot)
   rw[uh hr e hvp,hM] at this
   exact this
  have kI:=fun g=>Jv (d:=1) (g:=g) (q:=(M:Int)) (by decide)
  simp only[sz,simprocAttr,sf,h11,h12,h13,h14,kq,ld3,kC,kI,kT]
  refine EF (q:=(M:Int)) fun g7 f7 l7=>?_
  simp only[sz,simprocAttr,sf,nI,tv,tA]
  refine ⟨?_,⟨?_,fun i hi=>?_⟩,by simp[St,LSo,sx,h7,h8,h9,h11]⟩
  ·simp only[List.reverse_cons,List.reverse_nil,List.nil_append,List.cons_append]
   exact aL (List.replicate 18 false++[true,false,false]) [] (by simp[All2,ae,aA,C3,List.replicate]) (by decide) (by simp)
  ·have:=f7.1;simp at this ⊢;omega
  ·have:=f7.2 i (by simp;omega);simp at this ⊢;exact this
 clear h7 h8 h9 h11 h12 h13 h14
 rintro t df g6 ⟨rfl,hf6,h7,h8,h9,h11,-⟩
 have n6:=hf6.1
 have k26:g6.h.get 2=.cells 2 [[.int .i64 n.grain,b]] 0 false false:=by rw[hf6.2 2 (by omega),k2]
 have kq6:g6.h.get q=.cells 3 [[a1,a2,a3]] 0 false false:=by rw[hf6.2 q hq,kq]
 have hu6:=hu5.step hf6
 have lu:∀g,ii .slice u g=.val (.int .i64 (vars.length:Int)):=fun g=>by
  rcases hu with ⟨rfl,e0⟩ | ⟨id,ep,lo,-,-,rfl,-⟩
  ·have:=congrArg List.length e0
   rw[List.length_map,List.length_nil] at this
   rw[this];rfl
  ·rw[List.length_map];rfl
 refine cV (P:=fun t' df g'=>df=[]/\Fr g6 g'/\St t' (LSo w u q)) ?_ ?_
 ·simp only[sz,simprocAttr,h9,lu]
  refine Kx (n:=n) (e:=e) (vars:=vars) (b:=b) (w:=w) (u:=u) (a1:=a1) (a2:=a2) (a3:=a3) (q:=q) hM' hr r1 hw hvp ha hu6 htot (by simp[St,LSo,sx,h7,h8,h9,h11]) (by simp[sx]) (by simp[sx]) k26 kq6 (by omega) (by omega) ?_
  intro t g' ht hf
  simp only[sz,simprocAttr]
  exact ⟨hf,ht⟩
 clear h7 h8 h9 h11
 rintro t df g7 ⟨rfl,hf7,h7,h8,h9,h11,-⟩
 have n7:=hf7.1
 have k27:g7.h.get 2=.cells 2 [[.int .i64 n.grain,b]] 0 false false:=by rw[hf7.2 2 (by omega),k26]
 have kq7:g7.h.get q=.cells 3 [[a1,a2,a3]] 0 false false:=by rw[hf7.2 q (by omega),kq6]
 simp only[jj]
 by_cases hall:vars.length<n.nodes.length
 ·have c1:((vars.length:Int)<(n.nodes.length:Int)):=by omega
  simp only[sz,simprocAttr,h7,h9,lu,k27,ldf,lb,c1]
 ·have c1:¬((vars.length:Int)<(n.nodes.length:Int)):=by omega
  refine cV (P:=fun t' df g'=>df=[]/\g'=g7/\St t' (LSo w u q)) ?_ ?_
  ·simp only[sz,simprocAttr,h7,h9,lu,k27,ldf,lb,c1]
   simp[St,LSo,sx,h7,h8,h9,h11]
  clear h7 h8 h9 h11
  rintro t df g8 ⟨rfl,hg,h7,h8,h9,h11,-⟩
  rw[hg];clear hg
  have hvall:vars=(List.range n.nodes.length).map fun v:Nat=>(v:Int):=by
   rw[hvars]
   refine Bt (yj ?_)
   rw[<-hvars];omega
  obtain ⟨_,_,_,e1,-,-,x3⟩:=aX.1 ha
  injection e1 with e1 e2
  injection e2 with e2 e3
  injection e3 with e3
  subst e1 e2 e3
  have x3:SlR NoP 0 .nil (S.aG n e vars (S.an n)) a3:=x3
  have rW:∀h,am h 1 a3=some ((S.aG n e vars (S.an n)).map ci):=fun h=>(x3.tree (h':=h) (Nat.le_refl 0):SlR NoP 0 h _ a3).ints
  have hL:(S.aG n e vars (S.an n)).length=S.an n:=by
   rw[uq,hvall,<-aG n,zH];rfl
  have la:=x3.len
  rw[hL] at la
  have l3:aI (.cells 3 [[a1,a2,a3]] 0 false false) 0 0 false 1 2=.val a3:=rfl
  simp only[sz,simprocAttr,h11,kq7,l3,la]
  refine JF (n:=n) (e:=e) (L:=S.aG n e vars (S.an n)) (b:=b) (w:=w) (a3:=a3) hM' hr l1.1 hw rW hL (fun j hj=>by rw[hvall];exact KP hr e hj) (by simp[St,sx,h7,h8]) (by simp[sx]) (by simp[sx]) k27 (by omega) ?_
  intro t g'
  simp only[sz,simprocAttr,i_]
end
end Hx
end
section
namespace Hx
open Go Go.RowKit Go.ChangeShapes Go.WideShapes
def rZ (P:Program):List Field->Nat->Option Nat
 | [],k=>some k
 | f::fs,k=>if f.offset=k then rZ P fs (k+P.cellsOf f.type) else none
def rK (P:Program):Nat->TypeId->Bool
 | 0,_=>false
 | n+1,t=>match P.underlying t with
  | some .bool=>true
  | some (.int _)=>true
  | some (.slice e)=>decide (0<P.cellsOf e)&&rK P n e
  | some (.struct fs)=>(rZ P fs.toList 0 == some (P.cellsOf t))&&fs.toList.all (fun f=>rK P n f.type)
  | some (.array m e)=>decide (m*P.cellsOf e=P.cellsOf t)&&rK P n e
  | _=>false
def Sh (P:Program):Nat->TypeId->List AV->Prop
 | 0,_,_=>False
 | n+1,t,xs=>match P.underlying t with
  | some .bool=>∃b,xs=[.bool b]
  | some (.int k)=>∃z,xs=[.int k z]/\(Lit.int k z).wf=true
  | some (.slice e)=>xs=[.nils]\/∃rows,xs=[.tsl 0 (P.cellsOf e) rows]/\rows.length<9223372036854775808/\∀row∈rows,Sh P n e row
  | some (.struct fs)=>∃xss,xs=xss.flatten/\All2 (fun (f:Field) ys=>Sh P n f.type ys) fs.toList xss
  | some (.array m e)=>∃xss:List (List AV),xs=xss.flatten/\xss.length=m/\∀ys∈xss,Sh P n e ys
  | _=>False
def Cb (P:Program)(w:World)(n:Nat)(t:TypeId)(xs:List AV)(cs:List Value):Prop :=
 RVs0 w xs cs/\(∀y∈xs,y.one=true/\Closed y)/\Sh P n t xs
theorem RVs0.append {w:World}{xs ys:List AV}{cs ds:List Value}(h:RVs0 w xs cs)(h':RVs0 w ys ds):RVs0 w (xs++ys) (cs++ds):=by
 refine ⟨by rw[List.length_append,List.length_append,h.1,h'.1],fun i x v hx hv=>?_⟩
 rcases Nat.lt_or_ge i xs.length with hi | hi
 ·rw[List.getElem?_append_left hi] at hx
  rw[List.getElem?_append_left (by rw[<-h.1];exact hi)] at hv
  exact h.2 i x v hx hv
 ·rw[List.getElem?_append_right hi] at hx
  rw[List.getElem?_append_right (by rw[<-h.1];exact hi),<-h.1] at hv
  exact h'.2 _ x v hx hv
theorem Fm (b o n:Nat):(⟨b,o,none⟩:Addr).add n=adr b (o+n):=by
 unfold Addr.add
 split
 ·rename_i h;subst h;rfl
 ·rfl
variable {H:Type}{enc:TypeId×Value->H}{P:Program}{w:World}
theorem zf:∀{fl:List Field} {k K:Nat},rZ P fl k=some K->k<=K
 | [],k,K,h=>by injection h with h;omega
 | f::fl,k,K,h=>by
  unfold rZ at h
  split at h
  ·have:=zf h;omega
  ·cases h
theorem Jk {n:Nat}{cs:List Value}:∀{fl:List Field} {k K:Nat},rZ P fl k=some K ->
  (∀f∈fl,∃xs,Cb P w n f.type xs ((cs.drop f.offset).take (P.cellsOf f.type))) ->
  ∃xss,All2 (fun (f:Field) ys=>Sh P n f.type ys) fl xss/\RVs0 w xss.flatten ((cs.drop k).take (K - k))/\∀y∈xss.flatten,y.one=true/\Closed y
 | [],k,K,h,_=>by
  injection h with h;subst h
  exact ⟨[],trivial,by rw[Nat.sub_self,List.take_zero];exact ⟨rfl,fun i x v hx=>by simp at hx⟩,fun y hy=>by simp at hy⟩
 | f::fl,k,K,h,hg=>by
  unfold rZ at h
  split at h
  ·rename_i ho
   subst ho
   obtain ⟨xs,h1,h2,h3⟩:=hg f (by simp)
   obtain ⟨xss,a1,a2,a3⟩:=Jk h fun f' hf'=>hg f' (by simp[hf'])
   have hle:=zf h
   refine ⟨xs::xss,⟨h3,a1⟩,?_,fun y hy=>?_⟩
   ·have e:(cs.drop f.offset).take (K - f.offset)=(cs.drop f.offset).take (P.cellsOf f.type)++(cs.drop (f.offset+P.cellsOf f.type)).take (K - (f.offset+P.cellsOf f.type)):=by
     rw[show K - f.offset=P.cellsOf f.type+(K - (f.offset+P.cellsOf f.type)) by omega,List.take_add,List.drop_drop]
    rw[e,List.flatten_cons]
    exact h1.append a2
   ·rw[List.flatten_cons,List.mem_append] at hy
    rcases hy with hy | hy
    ·exact h2 y hy
    ·exact a3 y hy
  ·cases h
theorem EH {n:Nat}{e:TypeId}{cs:List Value}:∀{m k:Nat},
  (∀i,i<m->∃xs,Cb P w n e xs ((cs.drop ((k+i)*P.cellsOf e)).take (P.cellsOf e))) ->
  ∃xss:List (List AV),xss.length=m/\(∀ys∈xss,Sh P n e ys)/\RVs0 w xss.flatten ((cs.drop (k*P.cellsOf e)).take (m*P.cellsOf e))/\∀y∈xss.flatten,y.one=true/\Closed y
 | 0,k,_=>⟨[],rfl,fun y hy=>by simp at hy,by rw[Nat.zero_mul,List.take_zero];exact ⟨rfl,fun i x v hx=>by simp at hx⟩,fun y hy=>by simp at hy⟩
 | m+1,k,hg=>by
  obtain ⟨xs,h1,h2,h3⟩:=hg 0 (by omega)
  rw[Nat.add_zero] at h1
  obtain ⟨xss,a0,a1,a2,a3⟩:=EH (m:=m) (k:=k+1) fun i hi=>by
   have:=hg (i+1) (by omega)
   rwa [show k+(i+1)=k+1+i by omega] at this
  refine ⟨xs::xss,by simp[a0],fun ys hy=>?_,?_,fun y hy=>?_⟩
  ·rcases List.mem_cons.1 hy with rfl | hy
   ·exact h3
   ·exact a1 ys hy
  ·have e:(cs.drop (k*P.cellsOf e)).take ((m+1)*P.cellsOf e)=(cs.drop (k*P.cellsOf e)).take (P.cellsOf e)++(cs.drop ((k+1)*P.cellsOf e)).take (m*P.cellsOf e):=by
    rw[show (m+1)*P.cellsOf e=P.cellsOf e+m*P.cellsOf e by rw[Nat.add_mul];omega,List.take_add,List.drop_drop,Nat.add_mul,Nat.one_mul]
   rw[e,List.flatten_cons]
   exact h1.append a2
  ·rw[List.flatten_cons,List.mem_append] at hy
   rcases hy with hy | hy
   ·exact h2 y hy
   ·exact a3 y hy
theorem IB:∀(n:Nat) (t:TypeId),rK P n t=true->∀(fuel:Nat) (cs:List Value) (x:DataW H×List MemPlace),DataW.trod enc P w 0 (fun _=>true) true fuel t cs=some x->∃xs,Cb P w n t xs cs:=by
 intro n
 induction n with
 | zero=>intro t h;simp[rK] at h
 | succ n ih =>
  intro t h fuel cs x hx
  unfold rK at h
  split at h
  ·rename_i hu
   obtain ⟨b,rfl,-⟩:=DataW.trod_bool hu hx
   refine ⟨[.bool b],⟨rfl,fun i x v h1 h2=>?_⟩,fun y hy=>?_,?_⟩
   ·cases i with
    | zero=>simp at h1 h2;subst h1;subst h2;exact .bool _ _
    | succ i=>simp at h1
   ·simp at hy;subst hy;exact ⟨rfl,.bool _⟩
   ·unfold Sh;rw[hu];exact ⟨b,rfl⟩
  ·rename_i k hu
   obtain ⟨z,rfl,-,hwf⟩:=DataW.trod_int hu hx
   refine ⟨[.int k z],⟨rfl,fun i x v h1 h2=>?_⟩,fun y hy=>?_,?_⟩
   ·cases i with
    | zero=>simp at h1 h2;subst h1;subst h2;exact .int _ _ _
    | succ i=>simp at h1
   ·simp at hy;subst hy;exact ⟨rfl,.int _ _⟩
   ·unfold Sh;rw[hu];exact ⟨z,rfl,hwf⟩
  ·rename_i e hu
   rw[Bool.and_eq_true,decide_eq_true_eq] at h
   obtain ⟨hpos,hp⟩:=h
   rcases DataW.trod_slice hu hx with ⟨rfl,-⟩ | ⟨a,len,cap,elems,rest,m,-,rfl,-,-,hlc,hcm,hlen,hel,-,-⟩
   ·refine ⟨[.nils],⟨rfl,fun i x v h1 h2=>?_⟩,fun y hy=>?_,?_⟩
    ·cases i with
     | zero=>simp at h1 h2;subst h1;subst h2;exact .nils _
     | succ i=>simp at h1
    ·simp at hy;subst hy;exact ⟨rfl,.nils⟩
    ·unfold Sh;rw[hu];exact .inl rfl
   ·have each:∀i,i<len->∃xs vs,w.cells? 0 (a.add (i*P.cellsOf e)) (P.cellsOf e)=some vs/\Cb P w n e xs vs:=by
     intro i hi
     have:=hel i hi
     rw[List.getElem?_eq_getElem (show i<elems.length by omega),Option.bind_eq_some_iff] at this
     obtain ⟨vs,h1,h2⟩:=this
     obtain ⟨xs,hg⟩:=ih e hp _ _ _ h2
     exact ⟨xs,vs,h1,hg⟩
    let rowf:Nat->List AV:=fun i=>if hi:i<len then Classical.choose (each i hi) else []
    let valf:Nat->List Value:=fun i=>if hi:i<len then Classical.choose (Classical.choose_spec (each i hi)) else []
    have hrow:∀i,i<len->w.cells? 0 (a.add (i*P.cellsOf e)) (P.cellsOf e)=some (valf i)/\Cb P w n e (rowf i) (valf i):=by
     intro i hi
     have:=Classical.choose_spec (Classical.choose_spec (each i hi))
     simpa only[rowf,valf,dif_pos hi] using this
    have hget:∀(i:Nat) (row:List AV),((List.range len).map rowf)[i]?=some row->i<len/\row=rowf i:=by
     intro i row h1
     rw[List.getElem?_map] at h1
     rcases Nat.lt_or_ge i len with hi | hi
     ·rw[List.getElem?_range hi] at h1
      injection h1 with h1
      exact ⟨hi,h1.symm⟩
     ·rw[List.getElem?_eq_none (by simpa using hi)] at h1;cases h1
    refine ⟨[.tsl 0 (P.cellsOf e) ((List.range len).map rowf)],⟨rfl,fun i x v h1 h2=>?_⟩,fun y hy=>?_,?_⟩
    ·cases i with
     | succ i=>simp at h1
     | zero =>
      simp at h1 h2;subst h1;subst h2
      rcases Nat.eq_zero_or_pos len with h0 | h0
      ·subst h0
       exact .tnil 0 0 _ a cap (Nat.le_refl _)
      ·obtain ⟨b,o,spot⟩:=a
       have hc0:=World.cells?_some (hrow 0 h0).1
       have hv0:(valf 0)[0]?=some (valf 0)[0]:=List.getElem?_eq_getElem (by rw[hc0.2.1];exact hpos)
       have h00:=hc0.2.2 0 hpos
       rw[hv0] at h00
       have hspot:spot=none:=by simpa [Addr.add] using World.cell?_spot h00
       subst hspot
       have cellat:∀i j row x,((List.range len).map rowf)[i]?=some row->row[j]?=some x->∃v,(valf i)[j]?=some v/\w.cell? (adr b (o+i*P.cellsOf e+j))=some v/\RV w gm0 av0 0 x v:=by
        intro i j row x hr hxj
        obtain ⟨hi,rfl⟩:=hget i row hr
        obtain ⟨q1,q2⟩:=hrow i hi
        have hj:j<(rowf i).length:=(List.getElem?_eq_some_iff.1 hxj).1
        have hj':j<(valf i).length:=by rw[<-q2.1.1];exact hj
        have hcs:=World.cells?_some q1
        have hcell:=hcs.2.2 j (by rw[<-hcs.2.1];exact hj')
        rw[List.getElem?_eq_getElem hj'] at hcell
        refine ⟨_,List.getElem?_eq_getElem hj',?_,q2.1.2 j x _ hxj (List.getElem?_eq_getElem hj')⟩
        rw[Fm,show adr b (o+i*P.cellsOf e)=(⟨b,o+i*P.cellsOf e,none⟩:Addr) from rfl,Fm] at hcell
        exact hcell
       have hb:b<w.heap.size:=by
        have:=C1 h00
        simpa [Addr.add] using this
       have hrl:((List.range len).map rowf).length=len:=by simp
       have key:=RV.tsl (w:=w) (γ:=gm0) (A:=av0) 0 0 (P.cellsOf e) ((List.range len).map rowf) b o cap (fun i j=>(valf i)[j]?.getD undef) (Nat.le_refl _) (by rw[hrl];exact hlc) hb (MH b) (fun h=>h)
        (fun i row hr=>by
         obtain ⟨hi,rfl⟩:=hget i row hr
         obtain ⟨q1,q2⟩:=hrow i hi
         rw[q2.1.1,(World.cells?_some q1).2.1])
        (fun i j row x hr hxj=>by
         obtain ⟨hi,rfl⟩:=hget i row hr
         exact ((hrow i hi).2.2.1 x (List.mem_of_getElem? hxj)).1)
        (fun i j row x hr hxj=>by
         obtain ⟨v,v1,v2,v3⟩:=cellat i j row x hr hxj
         rw[v2,v1];rfl)
        (fun i j row x hr hxj=>by
         obtain ⟨v,v1,v2,v3⟩:=cellat i j row x hr hxj
         rw[v1];exact v3)
        (fun row hr x hx=>by
         obtain ⟨i,hi⟩:=List.getElem?_of_mem hr
         obtain ⟨hi2,rfl⟩:=hget i row hi
         exact ((hrow i hi2).2.2.1 x hx).2)
       rw[hrl] at key
       exact key
    ·simp only[List.mem_singleton] at hy;subst hy
     refine ⟨rfl,.tsl _ _ _ fun row hr x hx=>?_⟩
     obtain ⟨i,hi⟩:=List.getElem?_of_mem hr
     obtain ⟨hi2,rfl⟩:=hget i row hi
     exact ((hrow i hi2).2.2.1 x hx).2
    ·unfold Sh;rw[hu]
     refine .inr ⟨_,rfl,?_,fun row hr=>?_⟩
     ·rw[List.length_map,List.length_range]
      have:maxLen<9223372036854775808:=by decide
      omega
     ·obtain ⟨i,hi⟩:=List.getElem?_of_mem hr
      obtain ⟨hi2,rfl⟩:=hget i row hi
      exact (hrow i hi2).2.2.2
  ·rename_i fs hu
   rw[Bool.and_eq_true] at h
   obtain ⟨hc,hp⟩:=h
   have hc:rZ P fs.toList 0=some (P.cellsOf t):=eq_of_beq hc
   obtain ⟨ys,m,-,-,hl,hyl,hel⟩:=DataW.trod_struct hu hx
   obtain ⟨xss,a1,a2,a3⟩:=Jk (w:=w) (n:=n) (cs:=cs) hc fun f hf=>by
    obtain ⟨i,hi,e⟩:=List.mem_iff_getElem.1 hf
    have hfi:fs[i]?=some f:=by rw[<-Array.getElem?_toList,List.getElem?_eq_getElem hi,e]
    have:=hel i f hfi
    rw[List.getElem?_eq_getElem (show i<ys.length by rw[hyl];simpa using hi)] at this
    exact ih f.type (List.all_eq_true.1 hp f hf) _ _ _ this
   rw[List.drop_zero,Nat.sub_zero,<-hl,List.take_length] at a2
   refine ⟨xss.flatten,a2,a3,?_⟩
   unfold Sh;rw[hu];exact ⟨xss,rfl,a1⟩
  ·rename_i m e hu
   rw[Bool.and_eq_true,decide_eq_true_eq] at h
   obtain ⟨hc,hp⟩:=h
   obtain ⟨ys,q,-,-,hl,hyl,hel⟩:=DataW.trod_array hu hx
   obtain ⟨xss,a0,a1,a2,a3⟩:=EH (w:=w) (n:=n) (e:=e) (cs:=cs) (m:=m) (k:=0) fun i hi=>by
    have:=hel i hi
    rw[List.getElem?_eq_getElem (show i<ys.length by omega)] at this
    rw[Nat.zero_add]
    exact ih e hp _ _ _ this
   rw[Nat.zero_mul,List.drop_zero,hc,<-hl,List.take_length] at a2
   refine ⟨xss.flatten,a2,a3,?_⟩
   unfold Sh;rw[hu];exact ⟨xss,rfl,a0,a1⟩
  ·cases h
theorem lI {n:Nat}{t:TypeId}{xs:List AV}(hu:P.underlying t=some (.int .u8))(h:Sh P n t xs):∃x:UInt8,Rp.rp NoP 0 .nil x xs:=by
 cases n with
 | zero=>exact h.elim
 | succ n =>
  unfold Sh at h;rw[hu] at h
  obtain ⟨z,rfl,hw⟩:=h
  simp only[Lit.wf,IntKind.min,IntKind.max,IntKind.signed,IntKind.bits,Bool.and_eq_true] at hw
  refine ⟨UInt8.ofNat z.toNat,gB.2 ?_⟩
  have h1:0<=z:=by simpa using hw.1
  have h2:z<=255:=by simpa using hw.2
  have h3:(UInt8.ofNat z.toNat).toNat=z.toNat:=UInt8.toNat_ofNat_of_lt' (by show z.toNat<256;omega)
  rw[h3,Int.toNat_of_nonneg h1]
theorem zP {α:Type} [Rp α]{n:Nat}{t e:TypeId}{xs:List AV}(hu:P.underlying t=some (.slice e))(hsz:P.cellsOf e=Rp.sz α)(hel:∀ys,Sh P n e ys->∃y:α,Rp.rp NoP 0 .nil y ys)(h:Sh P (n+1) t xs) :
  ∃l:List α,Rp.rp NoP 0 .nil l xs:=by
 unfold Sh at h;rw[hu] at h
 rcases h with rfl | ⟨rows,rfl,hl,hr⟩
 ·exact ⟨[],.nils,rfl,by simp,rfl⟩
 ·have:∀rows:List (List AV),(∀row∈rows,Sh P n e row)->∃l:List α,All2 (Rp.rp NoP 0 .nil) l rows:=by
   intro rows
   induction rows with
   | nil=>intro _;exact ⟨[],trivial⟩
   | cons r rows ih =>
    intro h
    obtain ⟨y,hy⟩:=hel r (h r (by simp))
    obtain ⟨l,hl⟩:=ih fun row hrow=>h row (by simp[hrow])
    exact ⟨y::l,hy,hl⟩
  obtain ⟨l,ha⟩:=this rows hr
  exact ⟨l,_,rfl,by rw[ha.len];exact hl,Nat.le_refl _,.inl hsz,ha⟩
theorem In {n m:Nat}{t e:TypeId}{xs:List AV}(hu:P.underlying t=some (.array m e))(h:Sh P (n+1) t xs):∃xss:List (List AV),xs=xss.flatten/\xss.length=m/\∀ys∈xss,Sh P n e ys:=by
 unfold Sh at h;rw[hu] at h;exact h
theorem tM {n:Nat}{t:TypeId}{fs:Array Field}{xs:List AV}(hu:P.underlying t=some (.struct fs))(h:Sh P (n+1) t xs):∃xss,xs=xss.flatten/\All2 (fun (f:Field) ys=>Sh P n f.type ys) fs.toList xss:=by
 unfold Sh at h;rw[hu] at h;exact h
end Hx
end
