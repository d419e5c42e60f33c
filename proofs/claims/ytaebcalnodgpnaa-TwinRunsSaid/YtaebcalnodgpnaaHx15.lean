/- A part of the proof: an interpreter over abstract values, shown right against the model, and what the functions of the chapter compute on it. -/
import Derived.OpenShut
import Derived.DataReads
import Derived.Test.YtaebcalnodgpnaaHx14
set_option linter.unusedVariables false
set_option linter.unusedSimpArgs false
set_option linter.unnecessarySimpa false
section
namespace Hx
open Go
noncomputable section
def BendV (K:Nat):VS:=fun P k h v=>∃m,Bnd K m∧Agg m P k h v
theorem snb_bend (K:Nat):Snb (BendV K) 1:=by
 refine ⟨fun {P k h v n} d r hn=>?_,fun {k h v n} r hn=>?_⟩
 ·obtain ⟨m,hm,r⟩:=r
  obtain ⟨v',e,r'⟩:=(snb_agg m).snap d r hn
  exact ⟨v',e,m,hm,r'⟩
 ·obtain ⟨m,hm,r⟩:=r
  exact (snb_agg m).tag r hn
theorem nilc_rptr {sz:Nat}{v:AV}{i off:Nat}(h:rowy v=true):nilcV (rptr sz v i off)=.val (rptr sz v i off):=by
 cases v<;>first | rfl | cases h
abbrev P3:Nat→Prop:=fun i=>3≤i
theorem bk2 {d K:Nat}{t:T}{g:G}{gr:Int}{rv nv:AV}{rts:List (List Int)}{nds:List Mech}(h3:tat t 3=.hptr 1 0 0 0)(h4:tat t 4=.hptr 2 0 0 0)(e1:g.h.get 1=.cells 3 [[.int .i64 gr,rv,nv]] 0 false false)(e2:g.h.get 2=.cells 3 [[.int .i64 0,.nils,.nils]] 0 false false)
  (hr:SlR P3 0 g.h rts rv) (hn:SlR P3 0 g.h nds nv) (hb:Bnd K ⟨gr,rts,nds⟩):wp C0 d none f_ref33_Bend_Of_k2 (fnQ C0 d [SR.cell true 3 4] fun v g'=>∃P,BendV K P 0 g'.h v) t [] g:=by
 simp only[f_ref33_Bend_Of_k2,sx,sy,SO.run,↓reduceIte,Nat.reduceEqDiff,Nat.reduceAdd,Nat.reduceLeDiff,h3,h4,e1,e2]
 refine ⟨P3,_,hb,_,rfl,?_⟩
 exact Rp.mono (P:=P3) (h:=g.h) (rp_causal.2 ⟨rv,nv,rfl,hr,hn⟩) (fun i hi=>⟨hi,by rw[get_put_ne _ _ _ (by have:3≤i:=hi;omega)]⟩) (Nat.le_refl _)
theorem BD.sl {K R n:Nat}{g:G}{V:Ky→AV}{E:Ky→En}{Rt:Nat→List Int}{c:Nat→Int}{F:Nat→Nat→List Int}(hD:BD K R n V E Rt c F)(hH:Hp g 3 (LB R n) V E)(hK:K≤2000000)(hR:R≤K)(hn:n≤K) :
  SlR P3 0 g.h ((List.range R).map Rt) (V (4,0))∧SlR P3 0 g.h ((List.range n).map fun i=>(⟨c i,F 1 i,F 2 i,F 3 i⟩:Mech)) (V (4,1))∧∀gr,Bnd K ⟨gr,(List.range R).map Rt,(List.range n).map fun i=>(⟨c i,F 1 i,F 2 i,F 3 i⟩:Mech)⟩:=by
 have p3:∀{k:Ky} {sz:Nat} {rows:List (List AV)},Own g 3 (V k) sz rows→∀i,vid (V k)=some i→P3 i:=fun h i hi=>(h.lt hi).1
 have sl1:∀{k:Ky} {l:List Int},Own g 3 (V k) 1 (l.map ci)→l.length≤K→SlR P3 0 g.h l (V k):=fun h hl=>Own.sl (α:=Int) h (by omega) (All2.of_map (fun a=>rp_int.2 rfl) _) (p3 h)
 refine ⟨?_,?_,fun gr=>⟨by simpa using hR,fun x hx=>?_,by simpa using hn,fun x hx=>?_⟩⟩
 ·have:=hH.own (k:=(4,0)) (by simp[LB]) hD.rs
  refine Own.sl (α:=List Int) this (by simp;omega) (all2_maps fun i hi=>?_) (p3 this)
  have hi:=List.mem_range.1 hi
  obtain ⟨q1,q2⟩:=hD.r i hi
  exact ⟨_,rfl,sl1 (hH.own (k:=(0,i)) (.inl ⟨rfl,hi⟩) q1) q2⟩
 ·have:=hH.own (k:=(4,1)) (by simp[LB]) hD.ns
  refine Own.sl (α:=Mech) this (by simp;omega) (all2_maps fun i hi=>?_) (p3 this)
  have hi:=List.mem_range.1 hi
  obtain ⟨q1,q2⟩:=hD.f 1 i (by omega) (by omega) hi
  obtain ⟨q3,q4⟩:=hD.f 2 i (by omega) (by omega) hi
  obtain ⟨q5,q6⟩:=hD.f 3 i (by omega) (by omega) hi
  exact rp_mech.2 ⟨_,_,_,rfl,sl1 (hH.own (k:=(1,i)) (.inr (.inl ⟨by simp,by simp,hi⟩)) q1) q2,sl1 (hH.own (k:=(2,i)) (.inr (.inl ⟨by simp,by simp,hi⟩)) q3) q4,sl1 (hH.own (k:=(3,i)) (.inr (.inl ⟨by simp,by simp,hi⟩)) q5) q6⟩
 ·obtain ⟨i,hi,rfl⟩:=List.mem_map.1 hx
  exact (hD.r i (List.mem_range.1 hi)).2
 ·obtain ⟨i,hi,rfl⟩:=List.mem_map.1 hx
  have hi:=List.mem_range.1 hi
  exact ⟨(hD.f 1 i (by omega) (by omega) hi).2,(hD.f 2 i (by omega) (by omega) hi).2,(hD.f 3 i (by omega) (by omega) hi).2⟩
theorem BD.up {K K' R n:Nat}{V:Ky→AV}{E:Ky→En}{Rt:Nat→List Int}{c:Nat→Int}{F:Nat→Nat→List Int}(h:BD K R n V E Rt c F)(hK:K≤K'):BD K' R n V E Rt c F :=
 ⟨fun i hi=>⟨(h.r i hi).1,by have:=(h.r i hi).2;omega⟩,fun q i a b hi=>⟨(h.f q i a b hi).1,by have:=(h.f q i a b hi).2;omega⟩,h.rs,h.ns⟩
theorem mapset {α:Type}{n J:Nat}{f h:Nat→α}{y:α}(he:∀i,h i=if i=J then y else f i):((List.range n).map f).set J y=(List.range n).map h:=by
 apply List.ext_getElem?
 intro i
 by_cases e:J=i
 ·subst e
  by_cases hj:J<n
  ·rw[List.getElem?_set_self (by simpa using hj)];simp[hj,he]
  ·rw[List.getElem?_eq_none (by simp;omega),List.getElem?_eq_none (by simp;omega)]
 ·rw[List.getElem?_set_ne e]
  by_cases hi:i<n
  ·simp[hi,he,Ne.symm e]
  ·rw[List.getElem?_eq_none (by simp;omega),List.getElem?_eq_none (by simp;omega)]
theorem SlR.far {α:Type} [Rp α]{P:Nat→Prop}{k:Nat}{h h':H}{l:List α}{v:AV}(r:SlR P k h l v)(hf:∀i,P i→h'.get i=h.get i):SlR P k h' l v:=by
 obtain ⟨w,hw,q⟩:=Rp.mono (P':=P) (h':=h') (show Rp.rp P k h l [v] from ⟨v,rfl,r⟩) (fun i hi=>⟨hi,hf i hi⟩) (Nat.le_refl _)
 injection hw with hw;subst hw;exact q
theorem SlR.heap {α:Type} [Rp α]{P:Nat→Prop}{k:Nat}{h h':H}{l:List α}{v:AV}(r:SlR P k h l v)(hf:h'=h):SlR P k h' l v:=by subst hf;exact r
theorem bend0 {d K:Nat}{x:BendM}{gr:Int}{R n J:Nat}{Rt:Nat→List Int}{c:Nat→Int}{F:Nat→Nat→List Int}(hK:K≤1000000)(hR:R≤K)(hn:n≤K)(hJ:J<n){t:T}{g':G}{V:Ky→AV}{E:Ky→En}{Qk:QT}
  (h2:tat t 2=.hptr 0 0 0 0) (h3:tat t 3=.hptr 1 0 0 0) (h4:tat t 4=.hptr 2 0 0 0) (h5:tat t 5=V (4,0)) (h8:tat t 8=V (4,1)) (h11:tat t 11=rptr 4 (V (4,1)) J 0) (hH:Hp g' 3 (LB R n) V E)
  (f0:g'.h.get 0=.cells 4 [[u8v x.1,u8v x.2.1,u8v x.2.2.1,.int .i64 x.2.2.2]] 0 false false) (f1:g'.h.get 1=.cells 3 [[.int .i64 gr,V (4,0),V (4,1)]] 0 false false) (f2:g'.h.get 2=.cells 3 [[.int .i64 0,.nils,.nils]] 0 false false) (hD:BD K R n V E Rt c F)
  (fin:∀t g gr rv nv rts nds,tat t 3=.hptr 1 0 0 0→tat t 4=.hptr 2 0 0 0→g.h.get 1=.cells 3 [[.int .i64 gr,rv,nv]] 0 false false→g.h.get 2=.cells 3 [[.int .i64 0,.nils,.nils]] 0 false false→SlR P3 0 g.h rts rv→SlR P3 0 g.h nds nv→Bnd (K+1) ⟨gr,rts,nds⟩→Qk .norm t [] g) :
  wp C0 d none (.ops [o 105 (.fad 3 (.t 2)),o 106 (.load false 1 (.t 105)),o 107 (.fad 0 (.t 3)),oz (.store 1 (.t 107) (.t 106))]) Qk t [] g':=by
 have o0:=hH.own (k:=(4,0)) (by simp[LB]) hD.rs
 have o1:=hH.own (k:=(4,1)) (by simp[LB]) hD.ns
 have hDu:=hD.up (show K≤K+1 by omega)
 have hn0:0<n:=by omega
 have ry1:rowy (V (4,1))=true:=rowy_of o1.rows (i:=0) (by simpa using hn0)
 have lrow:((List.range n).map fun i=>[AV.int .i64 (c i),V (1,i),V (2,i),V (3,i)]).length=n:=by simp
 have hrowJ:((List.range n).map fun i=>[AV.int .i64 (c i),V (1,i),V (2,i),V (3,i)])[J]?=some [AV.int .i64 (c J),V (1,J),V (2,J),V (3,J)]:=by simp[hJ]
 have hnx:=hH.nx
 obtain ⟨s1,s2,s3⟩:=hDu.sl hH (by omega) (by omega) (by omega)
 simp only[sx,sy,SO.run,↓reduceIte,Nat.reduceEqDiff,Nat.reduceAdd,Nat.reduceLeDiff,h2,h3,f0,f1]
 exact fin _ _ x.2.2.2 _ _ _ _ (by simp[sx,h3]) (by simp[sx,h4]) (by simp[H.get_put]) (by simp[H.get_put,f2]) (s1.far fun i hi=>by simp[H.get_put];intro e;have:3≤i:=hi;omega) (s2.far fun i hi=>by simp[H.get_put];intro e;have:3≤i:=hi;omega) (s3 _)
theorem bend4 {d K:Nat}{x:BendM}{gr:Int}{R n J:Nat}{Rt:Nat→List Int}{c:Nat→Int}{F:Nat→Nat→List Int}(hK:K≤1000000)(hR:R≤K)(hn:n≤K)(hJ:J<n){t:T}{g':G}{V:Ky→AV}{E:Ky→En}{Qk:QT}
  (h2:tat t 2=.hptr 0 0 0 0) (h3:tat t 3=.hptr 1 0 0 0) (h4:tat t 4=.hptr 2 0 0 0) (h5:tat t 5=V (4,0)) (h8:tat t 8=V (4,1)) (h11:tat t 11=rptr 4 (V (4,1)) J 0) (hH:Hp g' 3 (LB R n) V E)
  (f0:g'.h.get 0=.cells 4 [[u8v x.1,u8v x.2.1,u8v x.2.2.1,.int .i64 x.2.2.2]] 0 false false) (f1:g'.h.get 1=.cells 3 [[.int .i64 gr,V (4,0),V (4,1)]] 0 false false) (f2:g'.h.get 2=.cells 3 [[.int .i64 0,.nils,.nils]] 0 false false) (hD:BD K R n V E Rt c F)
  (fin:∀t g gr rv nv rts nds,tat t 3=.hptr 1 0 0 0→tat t 4=.hptr 2 0 0 0→g.h.get 1=.cells 3 [[.int .i64 gr,rv,nv]] 0 false false→g.h.get 2=.cells 3 [[.int .i64 0,.nils,.nils]] 0 false false→SlR P3 0 g.h rts rv→SlR P3 0 g.h nds nv→Bnd (K+1) ⟨gr,rts,nds⟩→Qk .norm t [] g) :
  wp C0 d none (.feet [0,0,2,6,14,0,32,96,254,511,1023,2047] [o 164 (.mv (.t 11)),o 165 (.mv (.t 11)),o 166 (.nilc (.t 165)),o 167 (.fad 1 (.t 166)),o 168 (.load false 1 (.t 167)),o 169 (.fad 3 (.t 2)),o 170 (.load false 1 (.t 169)),o 171 (.bsl 1 1 [.int .i64 0] [0] [.t 170]),o 172 (.app 1 8 (.t 168) (.t 171)),o 173 (.nilc (.t 164)),o 174 (.fad 1 (.t 173)),oz (.store 1 (.t 174) (.t 172))]) Qk t [] g':=by
 have o0:=hH.own (k:=(4,0)) (by simp[LB]) hD.rs
 have o1:=hH.own (k:=(4,1)) (by simp[LB]) hD.ns
 have hDu:=hD.up (show K≤K+1 by omega)
 have hn0:0<n:=by omega
 have ry1:rowy (V (4,1))=true:=rowy_of o1.rows (i:=0) (by simpa using hn0)
 have lrow:((List.range n).map fun i=>[AV.int .i64 (c i),V (1,i),V (2,i),V (3,i)]).length=n:=by simp
 have hrowJ:((List.range n).map fun i=>[AV.int .i64 (c i),V (1,i),V (2,i),V (3,i)])[J]?=some [AV.int .i64 (c J),V (1,J),V (2,J),V (3,J)]:=by simp[hJ]
 have hnx:=hH.nx
 have hq:=hD.f 1 J (by omega) (by omega) hJ
 have hkL:LB R n (1,J):=.inr (.inl ⟨by simp,by simp,hJ⟩)
 have hown:=hH.own hkL hq.1
 have hlk:=hq.2
 have hnx:=hH.nx
 simp only[sx,sy,sf,SO.run,↓reduceIte,Nat.reduceEqDiff,Nat.reduceAdd,Nat.reduceLeDiff,h2,h11,f0,nilc_rptr ry1,o1.rows,lrow,hJ,ry1,hrowJ,Option.isSome_some,Option.getD_some]
 refine Hp.app (k:=(1,J)) (hH.step (by simp;try omega) (fun i hi hi2=>?_)) hkL hq.1 (new:=[[.int .i64 (x.2.2.2)]]) (by simp[sx,sy,H.get_put]) (by simp[room];omega) fun v1 ga hHa na fra fsa lga vca vta=>?_
 ·simp[H.get_put];try omega
 simp only[sx,sy] at na fra fsa lga
 have o1a:=hHa.own (k:=(4,1)) (by simp[LB]) (by rw[ups_ne _ _ (by simp)];exact hD.ns)
 rw[ups_ne _ _ (by simp)] at o1a
 have hNr:=o1a.rows
 simp only[sx,sy,sf,SO.run,↓reduceIte,Nat.reduceEqDiff,Nat.reduceAdd,Nat.reduceLeDiff,h2,h11,nilc_rptr ry1,fad_rptr ry1]
 have vv:V (4,1)=ups V (1,J) v1 (4,1):=(ups_ne _ _ (by simp)).symm
 rw[vv]
 refine Hp.put (k:=(4,1)) (row:=[.int .i64 (c J),V (1,J),V (2,J),V (3,J)]) (row':=[.int .i64 (c J),v1,V (2,J),V (3,J)]) (hHa.same (by simp) (by simp;try omega)) (by simp[LB]) (by rw[ups_ne _ _ (by simp)];exact hD.ns) hrowJ (by rw[vca];rfl) vta (by rw[vca];rfl) fun gb hHb nb frb _=>?_
 try simp only[sx,sy] at nb frb
 have hDb:BD (K+1) R n (ups V (1,J) v1) (ups (ups E (1,J) (.sl 1 ((F 1 J).map ci++[[.int .i64 (x.2.2.2)]]))) (4,1) (.sl 4 (((List.range n).map fun i=>[.int .i64 (c i),V (1,i),V (2,i),V (3,i)]).set J [.int .i64 (c J),v1,V (2,J),V (3,J)]))) Rt c
   (fun q'=>if q'=1 then ups (F 1) J (F 1 J++[x.2.2.2]) else F q'):=by
  refine ⟨fun i hi=>?_,fun q' i a1 a2 hi=>?_,?_,?_⟩
  ·rw[ups_ne _ _ (by simp),ups_ne _ _ (by simp)];exact ⟨(hD.r i hi).1,by have:=(hD.r i hi).2;omega⟩
  ·have hf:=hD.f q' i a1 a2 hi
   rw[ups_ne _ _ (by simp;omega)]
   by_cases e:(q',i)=(1,J)
   ·obtain ⟨rfl,rfl⟩:=Prod.mk.inj e
    rw[ups_self,if_pos rfl,ups_self]
    exact ⟨by simp[ci],by simp;omega⟩
   ·rw[ups_ne _ _ e]
    split
    ·rename_i e2;subst e2
     rw[ups_ne _ _ (fun e3=>e (by rw[e3]))];exact ⟨hf.1,by omega⟩
    ·exact ⟨hf.1,by omega⟩
  ·rw[ups_ne _ _ (by simp),ups_ne _ _ (by simp),hD.rs]
   exact congrArg (En.sl 1) (List.map_congr_left fun i _=>by rw[ups_ne _ _ (by simp)])
  ·rw[ups_self]
   refine congrArg (En.sl 4) ?_
   exact mapset (fun i=>by by_cases e:i=J;(· subst e;rw[if_pos rfl,ups_self,ups_ne V (k:=(1,i)) (j:=(2,i)) _ (by simp),ups_ne V (k:=(1,i)) (j:=(3,i)) _ (by simp)]);(· rw[if_neg e,ups_ne V (k:=(1,J)) (j:=(1,i)) _ (by simp[e]),ups_ne V (k:=(1,J)) (j:=(2,i)) _ (by simp[e]),ups_ne V (k:=(1,J)) (j:=(3,i)) _ (by simp[e])]))
 obtain ⟨s1,s2,s3⟩:=hDb.sl hHb (by omega) (by omega) (by omega)
 rw[ups_ne _ _ (by simp)] at s1 s2
 have g1e:gb.h.get 1=.cells 3 [[.int .i64 gr,V (4,0),V (4,1)]] 0 false false:=by rw[frb 1 (by omega),fra 1 (by omega)];simp[H.get_put,f1]<;>omega
 have g2e:gb.h.get 2=.cells 3 [[.int .i64 0,.nils,.nils]] 0 false false:=by rw[frb 2 (by omega),fra 2 (by omega)];simp[H.get_put,f2]<;>omega
 simp only[sx,sy,sf,SO.run,↓reduceIte,Nat.reduceEqDiff,Nat.reduceAdd,Nat.reduceLeDiff,vca,vta]
 refine ⟨?_,?_⟩
 ·simp only[List.reverse_cons,List.reverse_nil,List.nil_append,List.cons_append]
  refine footsOk_mk [false,false,false,false,false,false,false,true,true,false,false,true] [(0,7),(1,7),(2,7),(3,7),(4,7),(0,8)] (by simp[All2,rdLook,noLook,bigLook]) (by decide) ?_
  rintro p hp x y hx hy
  try simp only[List.mem_cons,List.not_mem_nil,or_false] at hp
  have ro:=hown.refs_lt
  have ro1:=o1.refs_lt
  rcases hp with rfl | rfl | rfl | rfl | rfl | rfl<;>(simp at hx hy;subst hx;subst hy;refine apart_mk rfl rfl rfl rfl ?_ ?_ ?_<;>simp[rdLook,noLook,refIds_hptr,refIds_rptr ry1,ups_ne]<;>first | omega | (intro i' hi';have:=ro1 i' hi';omega) | (intro i' hi';rcases lga i' hi' with h | h<;>first | omega | simp at h) | skip)
 exact fin _ _ gr _ _ _ _ (by simp[sx,h3]) (by simp[sx,h4]) (by simpa using g1e) (by simpa using g2e) (s1.heap (by simp)) (s2.heap (by simp)) (s3 gr)
theorem bend5 {d K:Nat}{x:BendM}{gr:Int}{R n J:Nat}{Rt:Nat→List Int}{c:Nat→Int}{F:Nat→Nat→List Int}(hK:K≤1000000)(hR:R≤K)(hn:n≤K)(hJ:J<n){t:T}{g':G}{V:Ky→AV}{E:Ky→En}{Qk:QT}
  (h2:tat t 2=.hptr 0 0 0 0) (h3:tat t 3=.hptr 1 0 0 0) (h4:tat t 4=.hptr 2 0 0 0) (h5:tat t 5=V (4,0)) (h8:tat t 8=V (4,1)) (h11:tat t 11=rptr 4 (V (4,1)) J 0) (hH:Hp g' 3 (LB R n) V E)
  (f0:g'.h.get 0=.cells 4 [[u8v x.1,u8v x.2.1,u8v x.2.2.1,.int .i64 x.2.2.2]] 0 false false) (f1:g'.h.get 1=.cells 3 [[.int .i64 gr,V (4,0),V (4,1)]] 0 false false) (f2:g'.h.get 2=.cells 3 [[.int .i64 0,.nils,.nils]] 0 false false) (hD:BD K R n V E Rt c F)
  (fin:∀t g gr rv nv rts nds,tat t 3=.hptr 1 0 0 0→tat t 4=.hptr 2 0 0 0→g.h.get 1=.cells 3 [[.int .i64 gr,rv,nv]] 0 false false→g.h.get 2=.cells 3 [[.int .i64 0,.nils,.nils]] 0 false false→SlR P3 0 g.h rts rv→SlR P3 0 g.h nds nv→Bnd (K+1) ⟨gr,rts,nds⟩→Qk .norm t [] g) :
  wp C0 d none (.feet [0,0,2,6,14,0,32,96,254,511,1023,2047] [o 177 (.mv (.t 11)),o 178 (.mv (.t 11)),o 179 (.nilc (.t 178)),o 180 (.fad 2 (.t 179)),o 181 (.load false 1 (.t 180)),o 182 (.fad 3 (.t 2)),o 183 (.load false 1 (.t 182)),o 184 (.bsl 1 1 [.int .i64 0] [0] [.t 183]),o 185 (.app 1 8 (.t 181) (.t 184)),o 186 (.nilc (.t 177)),o 187 (.fad 2 (.t 186)),oz (.store 1 (.t 187) (.t 185))]) Qk t [] g':=by
 have o0:=hH.own (k:=(4,0)) (by simp[LB]) hD.rs
 have o1:=hH.own (k:=(4,1)) (by simp[LB]) hD.ns
 have hDu:=hD.up (show K≤K+1 by omega)
 have hn0:0<n:=by omega
 have ry1:rowy (V (4,1))=true:=rowy_of o1.rows (i:=0) (by simpa using hn0)
 have lrow:((List.range n).map fun i=>[AV.int .i64 (c i),V (1,i),V (2,i),V (3,i)]).length=n:=by simp
 have hrowJ:((List.range n).map fun i=>[AV.int .i64 (c i),V (1,i),V (2,i),V (3,i)])[J]?=some [AV.int .i64 (c J),V (1,J),V (2,J),V (3,J)]:=by simp[hJ]
 have hnx:=hH.nx
 have hq:=hD.f 2 J (by omega) (by omega) hJ
 have hkL:LB R n (2,J):=.inr (.inl ⟨by simp,by simp,hJ⟩)
 have hown:=hH.own hkL hq.1
 have hlk:=hq.2
 have hnx:=hH.nx
 simp only[sx,sy,sf,SO.run,↓reduceIte,Nat.reduceEqDiff,Nat.reduceAdd,Nat.reduceLeDiff,h2,h11,f0,nilc_rptr ry1,o1.rows,lrow,hJ,ry1,hrowJ,Option.isSome_some,Option.getD_some]
 refine Hp.app (k:=(2,J)) (hH.step (by simp;try omega) (fun i hi hi2=>?_)) hkL hq.1 (new:=[[.int .i64 (x.2.2.2)]]) (by simp[sx,sy,H.get_put]) (by simp[room];omega) fun v1 ga hHa na fra fsa lga vca vta=>?_
 ·simp[H.get_put];try omega
 simp only[sx,sy] at na fra fsa lga
 have o1a:=hHa.own (k:=(4,1)) (by simp[LB]) (by rw[ups_ne _ _ (by simp)];exact hD.ns)
 rw[ups_ne _ _ (by simp)] at o1a
 have hNr:=o1a.rows
 simp only[sx,sy,sf,SO.run,↓reduceIte,Nat.reduceEqDiff,Nat.reduceAdd,Nat.reduceLeDiff,h2,h11,nilc_rptr ry1,fad_rptr ry1]
 have vv:V (4,1)=ups V (2,J) v1 (4,1):=(ups_ne _ _ (by simp)).symm
 rw[vv]
 refine Hp.put (k:=(4,1)) (row:=[.int .i64 (c J),V (1,J),V (2,J),V (3,J)]) (row':=[.int .i64 (c J),V (1,J),v1,V (3,J)]) (hHa.same (by simp) (by simp;try omega)) (by simp[LB]) (by rw[ups_ne _ _ (by simp)];exact hD.ns) hrowJ (by rw[vca];rfl) vta (by rw[vca];rfl) fun gb hHb nb frb _=>?_
 try simp only[sx,sy] at nb frb
 have hDb:BD (K+1) R n (ups V (2,J) v1) (ups (ups E (2,J) (.sl 1 ((F 2 J).map ci++[[.int .i64 (x.2.2.2)]]))) (4,1) (.sl 4 (((List.range n).map fun i=>[.int .i64 (c i),V (1,i),V (2,i),V (3,i)]).set J [.int .i64 (c J),V (1,J),v1,V (3,J)]))) Rt c
   (fun q'=>if q'=2 then ups (F 2) J (F 2 J++[x.2.2.2]) else F q'):=by
  refine ⟨fun i hi=>?_,fun q' i a1 a2 hi=>?_,?_,?_⟩
  ·rw[ups_ne _ _ (by simp),ups_ne _ _ (by simp)];exact ⟨(hD.r i hi).1,by have:=(hD.r i hi).2;omega⟩
  ·have hf:=hD.f q' i a1 a2 hi
   rw[ups_ne _ _ (by simp;omega)]
   by_cases e:(q',i)=(2,J)
   ·obtain ⟨rfl,rfl⟩:=Prod.mk.inj e
    rw[ups_self,if_pos rfl,ups_self]
    exact ⟨by simp[ci],by simp;omega⟩
   ·rw[ups_ne _ _ e]
    split
    ·rename_i e2;subst e2
     rw[ups_ne _ _ (fun e3=>e (by rw[e3]))];exact ⟨hf.1,by omega⟩
    ·exact ⟨hf.1,by omega⟩
  ·rw[ups_ne _ _ (by simp),ups_ne _ _ (by simp),hD.rs]
   exact congrArg (En.sl 1) (List.map_congr_left fun i _=>by rw[ups_ne _ _ (by simp)])
  ·rw[ups_self]
   refine congrArg (En.sl 4) ?_
   exact mapset (fun i=>by by_cases e:i=J;(· subst e;rw[if_pos rfl,ups_self,ups_ne V (k:=(2,i)) (j:=(1,i)) _ (by simp),ups_ne V (k:=(2,i)) (j:=(3,i)) _ (by simp)]);(· rw[if_neg e,ups_ne V (k:=(2,J)) (j:=(1,i)) _ (by simp[e]),ups_ne V (k:=(2,J)) (j:=(2,i)) _ (by simp[e]),ups_ne V (k:=(2,J)) (j:=(3,i)) _ (by simp[e])]))
 obtain ⟨s1,s2,s3⟩:=hDb.sl hHb (by omega) (by omega) (by omega)
 rw[ups_ne _ _ (by simp)] at s1 s2
 have g1e:gb.h.get 1=.cells 3 [[.int .i64 gr,V (4,0),V (4,1)]] 0 false false:=by rw[frb 1 (by omega),fra 1 (by omega)];simp[H.get_put,f1]<;>omega
 have g2e:gb.h.get 2=.cells 3 [[.int .i64 0,.nils,.nils]] 0 false false:=by rw[frb 2 (by omega),fra 2 (by omega)];simp[H.get_put,f2]<;>omega
 simp only[sx,sy,sf,SO.run,↓reduceIte,Nat.reduceEqDiff,Nat.reduceAdd,Nat.reduceLeDiff,vca,vta]
 refine ⟨?_,?_⟩
 ·simp only[List.reverse_cons,List.reverse_nil,List.nil_append,List.cons_append]
  refine footsOk_mk [false,false,false,false,false,false,false,true,true,false,false,true] [(0,7),(1,7),(2,7),(3,7),(4,7),(0,8)] (by simp[All2,rdLook,noLook,bigLook]) (by decide) ?_
  rintro p hp x y hx hy
  try simp only[List.mem_cons,List.not_mem_nil,or_false] at hp
  have ro:=hown.refs_lt
  have ro1:=o1.refs_lt
  rcases hp with rfl | rfl | rfl | rfl | rfl | rfl<;>(simp at hx hy;subst hx;subst hy;refine apart_mk rfl rfl rfl rfl ?_ ?_ ?_<;>simp[rdLook,noLook,refIds_hptr,refIds_rptr ry1,ups_ne]<;>first | omega | (intro i' hi';have:=ro1 i' hi';omega) | (intro i' hi';rcases lga i' hi' with h | h<;>first | omega | simp at h) | skip)
 exact fin _ _ gr _ _ _ _ (by simp[sx,h3]) (by simp[sx,h4]) (by simpa using g1e) (by simpa using g2e) (s1.heap (by simp)) (s2.heap (by simp)) (s3 gr)
theorem bend7 {d K:Nat}{x:BendM}{gr:Int}{R n J:Nat}{Rt:Nat→List Int}{c:Nat→Int}{F:Nat→Nat→List Int}(hK:K≤1000000)(hR:R≤K)(hn:n≤K)(hJ:J<n){t:T}{g':G}{V:Ky→AV}{E:Ky→En}{Qk:QT}
  (h2:tat t 2=.hptr 0 0 0 0) (h3:tat t 3=.hptr 1 0 0 0) (h4:tat t 4=.hptr 2 0 0 0) (h5:tat t 5=V (4,0)) (h8:tat t 8=V (4,1)) (h11:tat t 11=rptr 4 (V (4,1)) J 0) (hH:Hp g' 3 (LB R n) V E)
  (f0:g'.h.get 0=.cells 4 [[u8v x.1,u8v x.2.1,u8v x.2.2.1,.int .i64 x.2.2.2]] 0 false false) (f1:g'.h.get 1=.cells 3 [[.int .i64 gr,V (4,0),V (4,1)]] 0 false false) (f2:g'.h.get 2=.cells 3 [[.int .i64 0,.nils,.nils]] 0 false false) (hD:BD K R n V E Rt c F)
  (fin:∀t g gr rv nv rts nds,tat t 3=.hptr 1 0 0 0→tat t 4=.hptr 2 0 0 0→g.h.get 1=.cells 3 [[.int .i64 gr,rv,nv]] 0 false false→g.h.get 2=.cells 3 [[.int .i64 0,.nils,.nils]] 0 false false→SlR P3 0 g.h rts rv→SlR P3 0 g.h nds nv→Bnd (K+1) ⟨gr,rts,nds⟩→Qk .norm t [] g) :
  wp C0 d none (.ops [o 214 (.mv (.t 11)),o 215 (.mv (.t 11)),o 216 (.nilc (.t 215)),o 217 (.fad 3 (.t 216)),o 218 (.load false 1 (.t 217)),o 219 (.bsl 1 1 [.int .i64 0] [0] [.k (.int .i64 0)]),o 220 (.app 1 8 (.t 218) (.t 219)),o 221 (.nilc (.t 214)),o 222 (.fad 3 (.t 221)),oz (.store 1 (.t 222) (.t 220))]) Qk t [] g':=by
 have o0:=hH.own (k:=(4,0)) (by simp[LB]) hD.rs
 have o1:=hH.own (k:=(4,1)) (by simp[LB]) hD.ns
 have hDu:=hD.up (show K≤K+1 by omega)
 have hn0:0<n:=by omega
 have ry1:rowy (V (4,1))=true:=rowy_of o1.rows (i:=0) (by simpa using hn0)
 have lrow:((List.range n).map fun i=>[AV.int .i64 (c i),V (1,i),V (2,i),V (3,i)]).length=n:=by simp
 have hrowJ:((List.range n).map fun i=>[AV.int .i64 (c i),V (1,i),V (2,i),V (3,i)])[J]?=some [AV.int .i64 (c J),V (1,J),V (2,J),V (3,J)]:=by simp[hJ]
 have hnx:=hH.nx
 have hq:=hD.f 3 J (by omega) (by omega) hJ
 have hkL:LB R n (3,J):=.inr (.inl ⟨by simp,by simp,hJ⟩)
 have hown:=hH.own hkL hq.1
 have hlk:=hq.2
 have hnx:=hH.nx
 simp only[sx,sy,SO.run,↓reduceIte,Nat.reduceEqDiff,Nat.reduceAdd,Nat.reduceLeDiff,h2,h11,f0,nilc_rptr ry1,o1.rows,lrow,hJ,ry1,hrowJ,Option.isSome_some,Option.getD_some]
 refine Hp.app (k:=(3,J)) (hH.step (by simp;try omega) (fun i hi hi2=>?_)) hkL hq.1 (new:=[[.int .i64 (0)]]) (by simp[sx,sy,H.get_put]) (by simp[room];omega) fun v1 ga hHa na fra fsa lga vca vta=>?_
 ·simp[H.get_put];try omega
 simp only[sx,sy] at na fra fsa lga
 have o1a:=hHa.own (k:=(4,1)) (by simp[LB]) (by rw[ups_ne _ _ (by simp)];exact hD.ns)
 rw[ups_ne _ _ (by simp)] at o1a
 have hNr:=o1a.rows
 simp only[sx,sy,SO.run,↓reduceIte,Nat.reduceEqDiff,Nat.reduceAdd,Nat.reduceLeDiff,h2,h11,nilc_rptr ry1,fad_rptr ry1]
 have vv:V (4,1)=ups V (3,J) v1 (4,1):=(ups_ne _ _ (by simp)).symm
 rw[vv]
 refine Hp.put (k:=(4,1)) (row:=[.int .i64 (c J),V (1,J),V (2,J),V (3,J)]) (row':=[.int .i64 (c J),V (1,J),V (2,J),v1]) (hHa.same (by simp) (by simp;try omega)) (by simp[LB]) (by rw[ups_ne _ _ (by simp)];exact hD.ns) hrowJ (by rw[vca];rfl) vta (by rw[vca];rfl) fun gb hHb nb frb _=>?_
 try simp only[sx,sy] at nb frb
 have hDb:BD (K+1) R n (ups V (3,J) v1) (ups (ups E (3,J) (.sl 1 ((F 3 J).map ci++[[.int .i64 (0)]]))) (4,1) (.sl 4 (((List.range n).map fun i=>[.int .i64 (c i),V (1,i),V (2,i),V (3,i)]).set J [.int .i64 (c J),V (1,J),V (2,J),v1]))) Rt c
   (fun q'=>if q'=3 then ups (F 3) J (F 3 J++[0]) else F q'):=by
  refine ⟨fun i hi=>?_,fun q' i a1 a2 hi=>?_,?_,?_⟩
  ·rw[ups_ne _ _ (by simp),ups_ne _ _ (by simp)];exact ⟨(hD.r i hi).1,by have:=(hD.r i hi).2;omega⟩
  ·have hf:=hD.f q' i a1 a2 hi
   rw[ups_ne _ _ (by simp;omega)]
   by_cases e:(q',i)=(3,J)
   ·obtain ⟨rfl,rfl⟩:=Prod.mk.inj e
    rw[ups_self,if_pos rfl,ups_self]
    exact ⟨by simp[ci],by simp;omega⟩
   ·rw[ups_ne _ _ e]
    split
    ·rename_i e2;subst e2
     rw[ups_ne _ _ (fun e3=>e (by rw[e3]))];exact ⟨hf.1,by omega⟩
    ·exact ⟨hf.1,by omega⟩
  ·rw[ups_ne _ _ (by simp),ups_ne _ _ (by simp),hD.rs]
   exact congrArg (En.sl 1) (List.map_congr_left fun i _=>by rw[ups_ne _ _ (by simp)])
  ·rw[ups_self]
   refine congrArg (En.sl 4) ?_
   exact mapset (fun i=>by by_cases e:i=J;(· subst e;rw[if_pos rfl,ups_self,ups_ne V (k:=(3,i)) (j:=(1,i)) _ (by simp),ups_ne V (k:=(3,i)) (j:=(2,i)) _ (by simp)]);(· rw[if_neg e,ups_ne V (k:=(3,J)) (j:=(1,i)) _ (by simp[e]),ups_ne V (k:=(3,J)) (j:=(2,i)) _ (by simp[e]),ups_ne V (k:=(3,J)) (j:=(3,i)) _ (by simp[e])]))
 obtain ⟨s1,s2,s3⟩:=hDb.sl hHb (by omega) (by omega) (by omega)
 rw[ups_ne _ _ (by simp)] at s1 s2
 have g1e:gb.h.get 1=.cells 3 [[.int .i64 gr,V (4,0),V (4,1)]] 0 false false:=by rw[frb 1 (by omega),fra 1 (by omega)];simp[H.get_put,f1]<;>omega
 have g2e:gb.h.get 2=.cells 3 [[.int .i64 0,.nils,.nils]] 0 false false:=by rw[frb 2 (by omega),fra 2 (by omega)];simp[H.get_put,f2]<;>omega
 try simp only[sx,sy,SO.run,↓reduceIte,Nat.reduceEqDiff,Nat.reduceAdd,Nat.reduceLeDiff,vca,vta]
 exact fin _ _ gr _ _ _ _ (by simp[sx,h3]) (by simp[sx,h4]) (by simpa using g1e) (by simpa using g2e) (s1.heap (by simp)) (s2.heap (by simp)) (s3 gr)
theorem bend3 {d K:Nat}{x:BendM}{gr:Int}{R n J:Nat}{Rt:Nat→List Int}{c:Nat→Int}{F:Nat→Nat→List Int}(hK:K≤1000000)(hR:R≤K)(hn:n≤K)(hJ:J<n){t:T}{g':G}{V:Ky→AV}{E:Ky→En}{Qk:QT}
  (h2:tat t 2=.hptr 0 0 0 0) (h3:tat t 3=.hptr 1 0 0 0) (h4:tat t 4=.hptr 2 0 0 0) (h5:tat t 5=V (4,0)) (h8:tat t 8=V (4,1)) (h11:tat t 11=rptr 4 (V (4,1)) J 0) (hH:Hp g' 3 (LB R n) V E)
  (f0:g'.h.get 0=.cells 4 [[u8v x.1,u8v x.2.1,u8v x.2.2.1,.int .i64 x.2.2.2]] 0 false false) (f1:g'.h.get 1=.cells 3 [[.int .i64 gr,V (4,0),V (4,1)]] 0 false false) (f2:g'.h.get 2=.cells 3 [[.int .i64 0,.nils,.nils]] 0 false false) (hD:BD K R n V E Rt c F)
  (fin:∀t g gr rv nv rts nds,tat t 3=.hptr 1 0 0 0→tat t 4=.hptr 2 0 0 0→g.h.get 1=.cells 3 [[.int .i64 gr,rv,nv]] 0 false false→g.h.get 2=.cells 3 [[.int .i64 0,.nils,.nils]] 0 false false→SlR P3 0 g.h rts rv→SlR P3 0 g.h nds nv→Bnd (K+1) ⟨gr,rts,nds⟩→Qk .norm t [] g) :
  wp C0 d none (.ops [o 157 (.mv (.t 11)),o 158 (.fad 3 (.t 2)),o 159 (.load false 1 (.t 158)),o 160 (.nilc (.t 157)),o 161 (.fad 0 (.t 160)),oz (.store 1 (.t 161) (.t 159))]) Qk t [] g':=by
 have o0:=hH.own (k:=(4,0)) (by simp[LB]) hD.rs
 have o1:=hH.own (k:=(4,1)) (by simp[LB]) hD.ns
 have hDu:=hD.up (show K≤K+1 by omega)
 have hn0:0<n:=by omega
 have ry1:rowy (V (4,1))=true:=rowy_of o1.rows (i:=0) (by simpa using hn0)
 have lrow:((List.range n).map fun i=>[AV.int .i64 (c i),V (1,i),V (2,i),V (3,i)]).length=n:=by simp
 have hrowJ:((List.range n).map fun i=>[AV.int .i64 (c i),V (1,i),V (2,i),V (3,i)])[J]?=some [AV.int .i64 (c J),V (1,J),V (2,J),V (3,J)]:=by simp[hJ]
 have hnx:=hH.nx
 simp only[sx,sy,SO.run,↓reduceIte,Nat.reduceEqDiff,Nat.reduceAdd,Nat.reduceLeDiff,h2,h11,f0,nilc_rptr ry1,fad_rptr ry1]
 refine Hp.put (k:=(4,1)) (row:=[.int .i64 (c J),V (1,J),V (2,J),V (3,J)]) (row':=[.int .i64 x.2.2.2,V (1,J),V (2,J),V (3,J)]) hH (by simp[LB]) hD.ns hrowJ rfl rfl rfl fun gb hHb nb frb _=>?_
 have hDb:BD (K+1) R n V (ups E (4,1) (.sl 4 (((List.range n).map fun i=>[.int .i64 (c i),V (1,i),V (2,i),V (3,i)]).set J [.int .i64 x.2.2.2,V (1,J),V (2,J),V (3,J)]))) Rt (ups c J x.2.2.2) F:=by
  refine ⟨fun i hi=>?_,fun q' i a1 a2 hi=>?_,?_,?_⟩
  ·rw[ups_ne _ _ (by simp)];exact hDu.r i hi
  ·rw[ups_ne _ _ (by simp;omega)];exact hDu.f q' i a1 a2 hi
  ·rw[ups_ne _ _ (by simp)];exact hD.rs
  ·rw[ups_self]
   refine congrArg (En.sl 4) ?_
   exact mapset (fun i=>by by_cases e:i=J;(· subst e;rw[if_pos rfl,ups_self]);(· rw[if_neg e,ups_ne _ _ e]))
 obtain ⟨s1,s2,s3⟩:=hDb.sl hHb (by omega) (by omega) (by omega)
 have g1e:gb.h.get 1=.cells 3 [[.int .i64 gr,V (4,0),V (4,1)]] 0 false false:=by rw[frb 1 (by omega),f1]
 have g2e:gb.h.get 2=.cells 3 [[.int .i64 0,.nils,.nils]] 0 false false:=by rw[frb 2 (by omega),f2]
 simp only[sx,sy,SO.run,↓reduceIte,Nat.reduceEqDiff,Nat.reduceAdd,Nat.reduceLeDiff]
 exact fin _ _ gr _ _ _ _ (by simp[sx,h3]) (by simp[sx,h4]) g1e g2e s1 s2 (s3 gr)
theorem bend6 {d K:Nat}{x:BendM}{gr:Int}{R n J:Nat}{Rt:Nat→List Int}{c:Nat→Int}{F:Nat→Nat→List Int}(hK:K≤1000000)(hR:R≤K)(hn:n≤K)(hJ:J<n){t:T}{g':G}{V:Ky→AV}{E:Ky→En}{Qk:QT}
  (h2:tat t 2=.hptr 0 0 0 0) (h3:tat t 3=.hptr 1 0 0 0) (h4:tat t 4=.hptr 2 0 0 0) (h5:tat t 5=V (4,0)) (h8:tat t 8=V (4,1)) (h11:tat t 11=rptr 4 (V (4,1)) J 0) (hH:Hp g' 3 (LB R n) V E)
  (f0:g'.h.get 0=.cells 4 [[u8v x.1,u8v x.2.1,u8v x.2.2.1,.int .i64 x.2.2.2]] 0 false false) (f1:g'.h.get 1=.cells 3 [[.int .i64 gr,V (4,0),V (4,1)]] 0 false false) (f2:g'.h.get 2=.cells 3 [[.int .i64 0,.nils,.nils]] 0 false false) (hD:BD K R n V E Rt c F)
  (fin:∀t g gr rv nv rts nds,tat t 3=.hptr 1 0 0 0→tat t 4=.hptr 2 0 0 0→g.h.get 1=.cells 3 [[.int .i64 gr,rv,nv]] 0 false false→g.h.get 2=.cells 3 [[.int .i64 0,.nils,.nils]] 0 false false→SlR P3 0 g.h rts rv→SlR P3 0 g.h nds nv→Bnd (K+1) ⟨gr,rts,nds⟩→Qk .norm t [] g) :
  wp C0 d none (.seq (.ops [o 190 (.mv (.t 11)),o 191 (.nilc (.t 190)),o 192 (.fad 3 (.t 191)),o 193 (.load false 1 (.t 192)),o 194 (.len .slice (.t 193)),o 195 (.bin .gtr (.t 194) (.k (.int .i64 0)))]) (.cond (.t 195) (.feet [0,1,3,7,0,16,48,0,128,384,896,1920,4080,0,8192,32767,65535] [o 196 (.mv (.t 11)),o 197 (.nilc (.t 196)),o 198 (.fad 3 (.t 197)),o 199 (.load false 1 (.t 198)),o 200 (.fad 2 (.t 2)),o 201 (.load false 1 (.t 200)),o 202 (.conv .i64 (.t 201)),o 203 (.mv (.t 11)),o 204 (.nilc (.t 203)),o 205 (.fad 3 (.t 204)),o 206 (.load false 1 (.t 205)),o 207 (.len .slice (.t 206)),o 208 (.bin .rem (.t 202) (.t 207)),o 209 (.fad 3 (.t 2)),o 210 (.load false 1 (.t 209)),o 211 (.ixs 1 (.t 199) (.t 208)),oz (.store 1 (.t 211) (.t 210))]) (.skip))) Qk t [] g':=by
 have o0:=hH.own (k:=(4,0)) (by simp[LB]) hD.rs
 have o1:=hH.own (k:=(4,1)) (by simp[LB]) hD.ns
 have hDu:=hD.up (show K≤K+1 by omega)
 have hn0:0<n:=by omega
 have ry1:rowy (V (4,1))=true:=rowy_of o1.rows (i:=0) (by simpa using hn0)
 have lrow:((List.range n).map fun i=>[AV.int .i64 (c i),V (1,i),V (2,i),V (3,i)]).length=n:=by simp
 have hrowJ:((List.range n).map fun i=>[AV.int .i64 (c i),V (1,i),V (2,i),V (3,i)])[J]?=some [AV.int .i64 (c J),V (1,J),V (2,J),V (3,J)]:=by simp[hJ]
 have hnx:=hH.nx
 have k8:x.2.2.1.toNat<256:=x.2.2.1.toNat_lt
 have hq:=hD.f 3 J (by omega) (by omega) hJ
 have hkL:LB R n (3,J):=.inr (.inl ⟨by simp,by simp,hJ⟩)
 have hown:=hH.own hkL hq.1
 have lo:=len_rows' hown.rows
 rw[List.length_map] at lo
 simp only[sx,sy,SO.run,↓reduceIte,Nat.reduceEqDiff,Nat.reduceAdd,Nat.reduceLeDiff,h2,h11,nilc_rptr ry1,fad_rptr ry1,o1.rows,lrow,hJ,ry1,hrowJ,lo,Option.isSome_some,Option.getD_some]
 refine bifP_mk (fun hb=>?_) (fun hb=>?_)
 ·have hpos:0<(F 3 J).length:=by simpa using hb
  have em:((x.2.2.1.toNat:Int) % ((F 3 J).length:Int))=((x.2.2.1.toNat % (F 3 J).length:Nat):Int):=by omega
  have hidx:x.2.2.1.toNat % (F 3 J).length<(F 3 J).length:=Nat.mod_lt _ hpos
  obtain ⟨idx,hie⟩:∃idx,idx=x.2.2.1.toNat % (F 3 J).length:=⟨_,rfl⟩
  rw[←hie] at em hidx
  ·simp only[sx,sy,sf,SO.run,↓reduceIte,Nat.reduceEqDiff,Nat.reduceAdd,Nat.reduceLeDiff,h2,h11,f0,nilc_rptr ry1,fad_rptr ry1,o1.rows,lrow,hJ,ry1,hrowJ,lo,u8v,wrap64 (show -9223372036854775808≤(x.2.2.1.toNat:Int) by omega) (show (x.2.2.1.toNat:Int)<9223372036854775808 by omega),bin_rem .i64 (show (0:Int)≤(x.2.2.1.toNat:Int) by omega) (show 0<((F 3 J).length:Int) by omega),em,hown.rows,List.length_map,hidx,Option.isSome_some,Option.getD_some]
   refine Hp.put (k:=(3,J)) (row:=ci ((F 3 J)[idx]'hidx)) (row':=ci x.2.2.2) (hH.same (by simp) (by simp;try omega)) hkL hq.1 (by rw[List.getElem?_map,List.getElem?_eq_getElem hidx];rfl) rfl rfl rfl fun gb hHb nb frb _=>?_
   try simp only[sx,sy] at nb frb
   have hDb:BD (K+1) R n V (ups E (3,J) (.sl 1 (((F 3 J).map ci).set idx (ci x.2.2.2)))) Rt c (fun q'=>if q'=3 then ups (F 3) J ((F 3 J).set idx x.2.2.2) else F q'):=by
    refine ⟨fun i hi=>?_,fun q' i a1 a2 hi=>?_,?_,?_⟩
    ·rw[ups_ne _ _ (by simp)];exact hDu.r i hi
    ·by_cases e:(q',i)=(3,J)
     ·obtain ⟨rfl,rfl⟩:=Prod.mk.inj e
      rw[ups_self,if_pos rfl,ups_self]
      exact ⟨by rw[List.map_set],by rw[List.length_set];exact (hDu.f 3 i a1 a2 hi).2⟩
     ·rw[ups_ne _ _ e]
      have hf:=hDu.f q' i a1 a2 hi
      split
      ·rename_i e2;subst e2
       rw[ups_ne _ _ (fun e3=>e (by rw[e3]))];exact hf
      ·exact hf
    ·rw[ups_ne _ _ (by simp)];exact hD.rs
    ·rw[ups_ne _ _ (by simp)];exact hD.ns
   obtain ⟨s1,s2,s3⟩:=hDb.sl hHb (by omega) (by omega) (by omega)
   have g1e:gb.h.get 1=.cells 3 [[.int .i64 gr,V (4,0),V (4,1)]] 0 false false:=by rw[frb 1 (by omega)];simp[f1]
   have g2e:gb.h.get 2=.cells 3 [[.int .i64 0,.nils,.nils]] 0 false false:=by rw[frb 2 (by omega)];simp[f2]
   simp only[sx,sy,sf,SO.run,↓reduceIte,Nat.reduceEqDiff,Nat.reduceAdd,Nat.reduceLeDiff]
   refine ⟨?_,?_⟩
   ·simp only[List.reverse_cons,List.reverse_nil,List.nil_append,List.cons_append]
    exact footsOk_mk [false,false,false,false,false,false,false,false,false,false,false,false,false,false,false,false,true] [] (by simp[All2,rdLook,noLook,bigLook]) (by decide) (by simp)
   exact fin _ _ gr _ _ _ _ (by simp[sx,h3]) (by simp[sx,h4]) (by simpa using g1e) (by simpa using g2e) (s1.heap (by simp)) (s2.heap (by simp)) (s3 gr)
 ·obtain ⟨s1,s2,s3⟩:=hDu.sl hH (by omega) (by omega) (by omega)
  simp only[sx,sy,SO.run,↓reduceIte,Nat.reduceEqDiff,Nat.reduceAdd,Nat.reduceLeDiff]
  exact fin _ _ gr _ _ _ _ (by simp[sx,h3]) (by simp[sx,h4]) f1 f2 s1 s2 (s3 gr)
theorem bend2 {d K:Nat}{x:BendM}{gr:Int}{R n J:Nat}{Rt:Nat→List Int}{c:Nat→Int}{F:Nat→Nat→List Int}(hK:K≤1000000)(hR:R≤K)(hn:n≤K)(hJ:J<n){t:T}{g':G}{V:Ky→AV}{E:Ky→En}{Qk:QT}
  (h2:tat t 2=.hptr 0 0 0 0) (h3:tat t 3=.hptr 1 0 0 0) (h4:tat t 4=.hptr 2 0 0 0) (h5:tat t 5=V (4,0)) (h8:tat t 8=V (4,1)) (h11:tat t 11=rptr 4 (V (4,1)) J 0) (hH:Hp g' 3 (LB R n) V E)
  (f0:g'.h.get 0=.cells 4 [[u8v x.1,u8v x.2.1,u8v x.2.2.1,.int .i64 x.2.2.2]] 0 false false) (f1:g'.h.get 1=.cells 3 [[.int .i64 gr,V (4,0),V (4,1)]] 0 false false) (f2:g'.h.get 2=.cells 3 [[.int .i64 0,.nils,.nils]] 0 false false) (hD:BD K R n V E Rt c F)
  (fin:∀t g gr rv nv rts nds,tat t 3=.hptr 1 0 0 0→tat t 4=.hptr 2 0 0 0→g.h.get 1=.cells 3 [[.int .i64 gr,rv,nv]] 0 false false→g.h.get 2=.cells 3 [[.int .i64 0,.nils,.nils]] 0 false false→SlR P3 0 g.h rts rv→SlR P3 0 g.h nds nv→Bnd (K+1) ⟨gr,rts,nds⟩→Qk .norm t [] g) :
  wp C0 d none (.seq (.ops [o 120 (.mv (.t 5)),o 121 (.len .slice (.t 120)),o 122 (.bin .gtr (.t 121) (.k (.int .i64 0))),o 123 (.mv (.t 122)),og 124 123 true (.mv (.t 5)),og 125 123 true (.fad 1 (.t 2)),og 126 123 true (.load false 1 (.t 125)),og 127 123 true (.conv .i64 (.t 126)),og 128 123 true (.mv (.t 5)),og 129 123 true (.len .slice (.t 128)),og 130 123 true (.bin .rem (.t 127) (.t 129)),og 131 123 true (.ixs 1 (.t 124) (.t 130)),og 132 123 true (.load false 1 (.t 131)),og 133 123 true (.len .slice (.t 132)),og 134 123 true (.bin .gtr (.t 133) (.k (.int .i64 0))),o 135 (.pick (.t 123) (.t 134) (.k (.bool false)))]) (.cond (.t 135) (.seq (.ops [o 136 (.mv (.t 5)),o 137 (.fad 1 (.t 2)),o 138 (.load false 1 (.t 137)),o 139 (.conv .i64 (.t 138)),o 140 (.mv (.t 5)),o 141 (.len .slice (.t 140)),o 142 (.bin .rem (.t 139) (.t 141)),o 143 (.ixs 1 (.t 136) (.t 142)),o 144 (.load false 1 (.t 143)),o 12 (.mv (.t 144))]) (.feet [0,0,2,6,0,16,62,0,128,511,1023] [o 145 (.mv (.t 12)),o 146 (.fad 2 (.t 2)),o 147 (.load false 1 (.t 146)),o 148 (.conv .i64 (.t 147)),o 149 (.mv (.t 12)),o 150 (.len .slice (.t 149)),o 151 (.bin .rem (.t 148) (.t 150)),o 152 (.fad 3 (.t 2)),o 153 (.load false 1 (.t 152)),o 154 (.ixs 1 (.t 145) (.t 151)),oz (.store 1 (.t 154) (.t 153))])) (.skip))) Qk t [] g':=by
 have o0:=hH.own (k:=(4,0)) (by simp[LB]) hD.rs
 have o1:=hH.own (k:=(4,1)) (by simp[LB]) hD.ns
 have hDu:=hD.up (show K≤K+1 by omega)
 have hn0:0<n:=by omega
 have ry1:rowy (V (4,1))=true:=rowy_of o1.rows (i:=0) (by simpa using hn0)
 have lrow:((List.range n).map fun i=>[AV.int .i64 (c i),V (1,i),V (2,i),V (3,i)]).length=n:=by simp
 have hrowJ:((List.range n).map fun i=>[AV.int .i64 (c i),V (1,i),V (2,i),V (3,i)])[J]?=some [AV.int .i64 (c J),V (1,J),V (2,J),V (3,J)]:=by simp[hJ]
 have hnx:=hH.nx
 have k8:x.2.2.1.toNat<256:=x.2.2.1.toNat_lt
 have a8:x.2.1.toNat<256:=x.2.1.toNat_lt
 have len0:=len_rows' o0.rows
 rw[List.length_map,List.length_range] at len0
 have rlen:((List.range R).map fun i=>[V (0,i)]).length=R:=by simp
 have stay:∀t,tat t 3=.hptr 1 0 0 0→tat t 4=.hptr 2 0 0 0→Qk .norm t [] g':=fun t h3 h4=>by
  obtain ⟨s1,s2,s3⟩:=hDu.sl hH (by omega) (by omega) (by omega)
  exact fin _ _ gr _ _ _ _ h3 h4 f1 f2 s1 s2 (s3 gr)
 by_cases hR0:R=0
 ·subst hR0
  have hq0:decide ((0:Int)<((0:Nat):Int))=false:=by decide
  simp only[sx,sy,SO.run,↓reduceIte,Nat.reduceEqDiff,Nat.reduceAdd,Nat.reduceLeDiff,h5,len0,hq0]
  exact stay _ (by simp[sx,h3]) (by simp[sx,h4])
 have hq0:decide ((0:Int)<(R:Int))=true:=by simp;omega
 have em0:((x.2.1.toNat:Int) % (R:Int))=((x.2.1.toNat % R:Nat):Int):=by omega
 have hI:x.2.1.toNat % R<R:=Nat.mod_lt _ (by omega)
 obtain ⟨I,hIe⟩:∃I,I=x.2.1.toNat % R:=⟨_,rfl⟩
 rw[←hIe] at em0 hI
 have hq:=hD.r I hI
 have hkL:LB R n (0,I):=.inl ⟨rfl,hI⟩
 have hown:=hH.own hkL hq.1
 have lo:=len_rows' hown.rows
 rw[List.length_map] at lo
 have hrI:((List.range R).map fun i=>[V (0,i)])[I]?=some [V (0,I)]:=by simp[hI]
 simp only[sx,sy,SO.run,↓reduceIte,Nat.reduceEqDiff,Nat.reduceAdd,Nat.reduceLeDiff,h2,h5,f0,len0,hq0,u8v,wrap64 (show -9223372036854775808≤(x.2.1.toNat:Int) by omega) (show (x.2.1.toNat:Int)<9223372036854775808 by omega),bin_rem .i64 (show (0:Int)≤(x.2.1.toNat:Int) by omega) (show 0<(R:Int) by omega),em0,o0.rows,rlen,hI,hrI,lo,Option.isSome_some,Option.getD_some]
 refine bifP_mk (fun hb=>?_) (fun hb=>?_)
 ·have hpos:0<(Rt I).length:=by simpa using hb
  have em:((x.2.2.1.toNat:Int) % ((Rt I).length:Int))=((x.2.2.1.toNat % (Rt I).length:Nat):Int):=by omega
  have hidx:x.2.2.1.toNat % (Rt I).length<(Rt I).length:=Nat.mod_lt _ hpos
  obtain ⟨idx,hie⟩:∃idx,idx=x.2.2.1.toNat % (Rt I).length:=⟨_,rfl⟩
  rw[←hie] at em hidx
  ·simp only[sx,sy,sf,SO.run,↓reduceIte,Nat.reduceEqDiff,Nat.reduceAdd,Nat.reduceLeDiff,h2,h5,f0,len0,u8v,wrap64 (show -9223372036854775808≤(x.2.1.toNat:Int) by omega) (show (x.2.1.toNat:Int)<9223372036854775808 by omega),bin_rem .i64 (show (0:Int)≤(x.2.1.toNat:Int) by omega) (show 0<(R:Int) by omega),em0,o0.rows,rlen,hI,hrI,lo,wrap64 (show -9223372036854775808≤(x.2.2.1.toNat:Int) by omega) (show (x.2.2.1.toNat:Int)<9223372036854775808 by omega),bin_rem .i64 (show (0:Int)≤(x.2.2.1.toNat:Int) by omega) (show 0<((Rt I).length:Int) by omega),em,hown.rows,List.length_map,hidx,Option.isSome_some,Option.getD_some]
   refine Hp.put (k:=(0,I)) (row:=ci ((Rt I)[idx]'hidx)) (row':=ci x.2.2.2) (hH.same (by simp) (by simp;try omega)) hkL hq.1 (by rw[List.getElem?_map,List.getElem?_eq_getElem hidx];rfl) rfl rfl rfl fun gb hHb nb frb _=>?_
   try simp only[sx,sy] at nb frb
   have hDb:BD (K+1) R n V (ups E (0,I) (.sl 1 (((Rt I).map ci).set idx (ci x.2.2.2)))) (ups Rt I ((Rt I).set idx x.2.2.2)) c F:=by
    refine ⟨fun i hi=>?_,fun q' i a1 a2 hi=>?_,?_,?_⟩
    ·by_cases e:i=I
     ·subst e
      rw[ups_self,ups_self]
      exact ⟨by rw[List.map_set],by rw[List.length_set];exact (hDu.r i hi).2⟩
     ·rw[ups_ne _ _ (by simpa using e),ups_ne _ _ e];exact hDu.r i hi
    ·rw[ups_ne _ _ (by simp;omega)];exact hDu.f q' i a1 a2 hi
    ·rw[ups_ne _ _ (by simp)];exact hD.rs
    ·rw[ups_ne _ _ (by simp)];exact hD.ns
   obtain ⟨s1,s2,s3⟩:=hDb.sl hHb (by omega) (by omega) (by omega)
   have g1e:gb.h.get 1=.cells 3 [[.int .i64 gr,V (4,0),V (4,1)]] 0 false false:=by rw[frb 1 (by omega)];simp[f1]
   have g2e:gb.h.get 2=.cells 3 [[.int .i64 0,.nils,.nils]] 0 false false:=by rw[frb 2 (by omega)];simp[f2]
   simp only[sx,sy,sf,SO.run,↓reduceIte,Nat.reduceEqDiff,Nat.reduceAdd,Nat.reduceLeDiff]
   refine ⟨?_,?_⟩
   ·simp only[List.reverse_cons,List.reverse_nil,List.nil_append,List.cons_append]
    exact footsOk_mk [false,false,false,false,false,false,false,false,false,false,true] [] (by simp[All2,rdLook,noLook,bigLook]) (by decide) (by simp)
   exact fin _ _ gr _ _ _ _ (by simp[sx,h3]) (by simp[sx,h4]) (by simpa using g1e) (by simpa using g2e) (s1.heap (by simp)) (s2.heap (by simp)) (s3 gr)
 ·simp only[sx,sy,SO.run,↓reduceIte,Nat.reduceEqDiff,Nat.reduceAdd,Nat.reduceLeDiff]
  exact stay _ (by simp[sx,h3]) (by simp[sx,h4])
theorem bend8 {d K:Nat}{x:BendM}{gr:Int}{R n J:Nat}{Rt:Nat→List Int}{c:Nat→Int}{F:Nat→Nat→List Int}(hK:K≤1000000)(hR:R≤K)(hn:n≤K)(hJ:J<n){t:T}{g':G}{V:Ky→AV}{E:Ky→En}{Qk:QT}
  (h2:tat t 2=.hptr 0 0 0 0) (h3:tat t 3=.hptr 1 0 0 0) (h4:tat t 4=.hptr 2 0 0 0) (h5:tat t 5=V (4,0)) (h8:tat t 8=V (4,1)) (h11:tat t 11=rptr 4 (V (4,1)) J 0) (hH:Hp g' 3 (LB R n) V E)
  (f0:g'.h.get 0=.cells 4 [[u8v x.1,u8v x.2.1,u8v x.2.2.1,.int .i64 x.2.2.2]] 0 false false) (f1:g'.h.get 1=.cells 3 [[.int .i64 gr,V (4,0),V (4,1)]] 0 false false) (f2:g'.h.get 2=.cells 3 [[.int .i64 0,.nils,.nils]] 0 false false) (hD:BD K R n V E Rt c F)
  (fin:∀t g gr rv nv rts nds,tat t 3=.hptr 1 0 0 0→tat t 4=.hptr 2 0 0 0→g.h.get 1=.cells 3 [[.int .i64 gr,rv,nv]] 0 false false→g.h.get 2=.cells 3 [[.int .i64 0,.nils,.nils]] 0 false false→SlR P3 0 g.h rts rv→SlR P3 0 g.h nds nv→Bnd (K+1) ⟨gr,rts,nds⟩→Qk .norm t [] g) :
  wp C0 d none (.ops [o 225 (.mv (.t 11)),o 226 (.nilc (.t 225)),o 227 (.fad 1 (.t 226)),oz (.store 1 (.t 227) (.k (.nils)))]) Qk t [] g':=by
 have o0:=hH.own (k:=(4,0)) (by simp[LB]) hD.rs
 have o1:=hH.own (k:=(4,1)) (by simp[LB]) hD.ns
 have hDu:=hD.up (show K≤K+1 by omega)
 have hn0:0<n:=by omega
 have ry1:rowy (V (4,1))=true:=rowy_of o1.rows (i:=0) (by simpa using hn0)
 have lrow:((List.range n).map fun i=>[AV.int .i64 (c i),V (1,i),V (2,i),V (3,i)]).length=n:=by simp
 have hrowJ:((List.range n).map fun i=>[AV.int .i64 (c i),V (1,i),V (2,i),V (3,i)])[J]?=some [AV.int .i64 (c J),V (1,J),V (2,J),V (3,J)]:=by simp[hJ]
 have hnx:=hH.nx
 simp only[sx,sy,SO.run,↓reduceIte,Nat.reduceEqDiff,Nat.reduceAdd,Nat.reduceLeDiff,h2,h11,f0,nilc_rptr ry1,fad_rptr ry1]
 have hA:=(hH.sub (L':=fun k=>LB R n k∧k≠(1,J)) (fun k h=>h.1)).add (k:=(1,J)) (L':=LB R n) (v':=.nils) (e':=.sl 1 []) (fun h=>h.2 rfl) (.inl ⟨rfl,rfl⟩) (Nat.le_refl _) (fun _ _ _=>rfl) (fun i hi=>by cases hi) (fun k hk=>by by_cases e:k=(1,J);(· exact .inr e);(· exact .inl ⟨hk,e⟩))
 have vv:V (4,1)=ups V (1,J) .nils (4,1):=(ups_ne _ _ (by simp)).symm
 rw[vv]
 refine Hp.put (k:=(4,1)) (row:=[.int .i64 (c J),V (1,J),V (2,J),V (3,J)]) (row':=[.int .i64 (c J),.nils,V (2,J),V (3,J)]) hA (by simp[LB]) (by rw[ups_ne _ _ (by simp)];exact hD.ns) hrowJ rfl rfl rfl fun gb hHb nb frb _=>?_
 have hDb:BD (K+1) R n (ups V (1,J) .nils) (ups (ups E (1,J) (.sl 1 [])) (4,1) (.sl 4 (((List.range n).map fun i=>[.int .i64 (c i),V (1,i),V (2,i),V (3,i)]).set J [.int .i64 (c J),.nils,V (2,J),V (3,J)]))) Rt c
   (fun q'=>if q'=1 then ups (F 1) J [] else F q'):=by
  refine ⟨fun i hi=>?_,fun q' i a1 a2 hi=>?_,?_,?_⟩
  ·rw[ups_ne _ _ (by simp),ups_ne _ _ (by simp)];exact hDu.r i hi
  ·have hf:=hDu.f q' i a1 a2 hi
   rw[ups_ne _ _ (by simp;omega)]
   by_cases e:(q',i)=(1,J)
   ·obtain ⟨rfl,rfl⟩:=Prod.mk.inj e
    rw[ups_self,if_pos rfl,ups_self]
    exact ⟨rfl,by simp⟩
   ·rw[ups_ne _ _ e]
    split
    ·rename_i e2;subst e2
     rw[ups_ne _ _ (fun e3=>e (by rw[e3]))];exact hf
    ·exact hf
  ·rw[ups_ne _ _ (by simp),ups_ne _ _ (by simp),hD.rs]
   exact congrArg (En.sl 1) (List.map_congr_left fun i _=>by rw[ups_ne _ _ (by simp)])
  ·rw[ups_self]
   refine congrArg (En.sl 4) ?_
   exact mapset (fun i=>by by_cases e:i=J;(· subst e;rw[if_pos rfl,ups_self,ups_ne V (k:=(1,i)) (j:=(2,i)) _ (by simp),ups_ne V (k:=(1,i)) (j:=(3,i)) _ (by simp)]);(· rw[if_neg e,ups_ne V (k:=(1,J)) (j:=(1,i)) _ (by simp[e]),ups_ne V (k:=(1,J)) (j:=(2,i)) _ (by simp[e]),ups_ne V (k:=(1,J)) (j:=(3,i)) _ (by simp[e])]))
 obtain ⟨s1,s2,s3⟩:=hDb.sl hHb (by omega) (by omega) (by omega)
 rw[ups_ne _ _ (by simp)] at s1 s2
 have g1e:gb.h.get 1=.cells 3 [[.int .i64 gr,V (4,0),V (4,1)]] 0 false false:=by rw[frb 1 (by omega),f1]
 have g2e:gb.h.get 2=.cells 3 [[.int .i64 0,.nils,.nils]] 0 false false:=by rw[frb 2 (by omega),f2]
 simp only[sx,sy,SO.run,↓reduceIte,Nat.reduceEqDiff,Nat.reduceAdd,Nat.reduceLeDiff]
 exact fin _ _ gr _ _ _ _ (by simp[sx,h3]) (by simp[sx,h4]) g1e g2e s1 s2 (s3 gr)
theorem bend1 {d K:Nat}{x:BendM}{gr:Int}{R n J:Nat}{Rt:Nat→List Int}{c:Nat→Int}{F:Nat→Nat→List Int}(hK:K≤1000000)(hR:R≤K)(hn:n≤K)(hJ:J<n){t:T}{g':G}{V:Ky→AV}{E:Ky→En}{Qk:QT}
  (h2:tat t 2=.hptr 0 0 0 0) (h3:tat t 3=.hptr 1 0 0 0) (h4:tat t 4=.hptr 2 0 0 0) (h5:tat t 5=V (4,0)) (h8:tat t 8=V (4,1)) (h11:tat t 11=rptr 4 (V (4,1)) J 0) (hH:Hp g' 3 (LB R n) V E)
  (f0:g'.h.get 0=.cells 4 [[u8v x.1,u8v x.2.1,u8v x.2.2.1,.int .i64 x.2.2.2]] 0 false false) (f1:g'.h.get 1=.cells 3 [[.int .i64 gr,V (4,0),V (4,1)]] 0 false false) (f2:g'.h.get 2=.cells 3 [[.int .i64 0,.nils,.nils]] 0 false false) (hD:BD K R n V E Rt c F)
  (fin:∀t g gr rv nv rts nds,tat t 3=.hptr 1 0 0 0→tat t 4=.hptr 2 0 0 0→g.h.get 1=.cells 3 [[.int .i64 gr,rv,nv]] 0 false false→g.h.get 2=.cells 3 [[.int .i64 0,.nils,.nils]] 0 false false→SlR P3 0 g.h rts rv→SlR P3 0 g.h nds nv→Bnd (K+1) ⟨gr,rts,nds⟩→Qk .norm t [] g) :
  wp C0 d none (.ops [o 110 (.fad 1 (.t 3)),o 111 (.load false 1 (.t 110)),o 112 (.fad 0 (.t 3)),o 113 (.load false 1 (.t 112)),o 114 (.bsl 1 1 [.int .i64 0] [0] [.t 113]),o 115 (.bsl 1 1 [.nils] [0] [.t 114]),o 116 (.app 1 24 (.t 111) (.t 115)),o 117 (.fad 1 (.t 3)),oz (.store 1 (.t 117) (.t 116))]) Qk t [] g':=by
 have o0:=hH.own (k:=(4,0)) (by simp[LB]) hD.rs
 have o1:=hH.own (k:=(4,1)) (by simp[LB]) hD.ns
 have hDu:=hD.up (show K≤K+1 by omega)
 have hn0:0<n:=by omega
 have ry1:rowy (V (4,1))=true:=rowy_of o1.rows (i:=0) (by simpa using hn0)
 have lrow:((List.range n).map fun i=>[AV.int .i64 (c i),V (1,i),V (2,i),V (3,i)]).length=n:=by simp
 have hrowJ:((List.range n).map fun i=>[AV.int .i64 (c i),V (1,i),V (2,i),V (3,i)])[J]?=some [AV.int .i64 (c J),V (1,J),V (2,J),V (3,J)]:=by simp[hJ]
 have hnx:=hH.nx
 simp only[sx,sy,SO.run,↓reduceIte,Nat.reduceEqDiff,Nat.reduceAdd,Nat.reduceLeDiff,h3,f1]
 have hA:=(hH.add (k:=(0,R)) (L':=LB (R+1) n) (g':=g'.new (.cells 1 [[.int .i64 gr]] 0 false false)) (v':=.hsl g'.nx 0 0 1 none) (e':=.sl 1 [[.int .i64 gr]]) (by simp[LB]) (own_one hnx _) (by simp) (fun i _ hi=>by rw[G.new_h,get_put_ne _ _ _ (by omega)]) (fun i hi=>by injection hi with hi;omega) (fun k hk=>lb_root hk))
 have hB:=hA.step (g':=(g'.new (.cells 1 [[.int .i64 gr]] 0 false false)).new (.cells 1 [[.hsl g'.nx 0 0 1 none]] 0 false false)) (by simp) (fun i _ hi=>by rw[G.new_h,get_put_ne _ _ _ (by omega)])
 have vv:V (4,0)=ups V (0,R) (.hsl g'.nx 0 0 1 none) (4,0):=(ups_ne _ _ (by simp)).symm
 have vv1:V (4,1)=ups V (0,R) (.hsl g'.nx 0 0 1 none) (4,1):=(ups_ne _ _ (by simp)).symm
 rw[vv]
 refine hB.app (k:=(4,0)) (by simp[LB]) (by rw[ups_ne _ _ (by simp)];exact hD.rs) (new:=[[.hsl g'.nx 0 0 1 none]]) (by simp[sx,sy,H.get_put]) (by simp[room];omega) fun v1 gb hHb nb frb _ _ vca vta=>?_
 simp only[sx,sy] at nb frb
 have g1e:gb.h.get 1=.cells 3 [[.int .i64 gr,V (4,0),V (4,1)]] 0 false false:=by rw[frb 1 (by omega),if_neg (by omega),if_neg (by omega),f1]
 have g2e:gb.h.get 2=.cells 3 [[.int .i64 0,.nils,.nils]] 0 false false:=by rw[frb 2 (by omega),if_neg (by omega),if_neg (by omega),f2]
 have hDb:BD (K+1) (R+1) n (ups (ups V (0,R) (.hsl g'.nx 0 0 1 none)) (4,0) v1) (ups (ups E (0,R) (.sl 1 [[.int .i64 gr]])) (4,0) (.sl 1 (((List.range R).map fun i=>[V (0,i)])++[[.hsl g'.nx 0 0 1 none]]))) (ups Rt R [gr]) c F:=by
  refine ⟨fun i hi=>?_,fun q' i a1 a2 hi=>?_,?_,?_⟩
  ·rw[ups_ne _ _ (by simp)]
   by_cases e:i=R
   ·subst e;rw[ups_self,ups_self];exact ⟨rfl,by simp⟩
   ·rw[ups_ne _ _ (by simpa using e),ups_ne _ _ e];exact hDu.r i (by omega)
  ·rw[ups_ne _ _ (by simp;omega),ups_ne _ _ (by simp;omega)];exact hDu.f q' i a1 a2 hi
  ·rw[ups_self,List.range_succ,List.map_append]
   congr 2
   ·refine List.map_congr_left fun i hi=>?_
    have:=List.mem_range.1 hi
    rw[ups_ne _ _ (by simp),ups_ne _ _ (by simp;omega)]
   ·simp[ups_ne,ups_self]
  ·rw[ups_ne _ _ (by simp),ups_ne _ _ (by simp),hD.ns]
   refine congrArg (En.sl 4) (List.map_congr_left fun i hi=>?_)
   rw[ups_ne _ (k:=(4,0)) (j:=(1,i)) _ (by simp),ups_ne _ (k:=(4,0)) (j:=(2,i)) _ (by simp),ups_ne _ (k:=(4,0)) (j:=(3,i)) _ (by simp),ups_ne V (k:=(0,R)) (j:=(1,i)) _ (by simp),ups_ne V (k:=(0,R)) (j:=(2,i)) _ (by simp),ups_ne V (k:=(0,R)) (j:=(3,i)) _ (by simp)]
 obtain ⟨s1,s2,s3⟩:=hDb.sl hHb (by omega) (by omega) (by omega)
 rw[ups_self] at s1
 rw[ups_ne _ _ (by simp),ups_ne _ _ (by simp)] at s2
 simp only[sx,sy,SO.run,↓reduceIte,Nat.reduceEqDiff,Nat.reduceAdd,Nat.reduceLeDiff,h3,g1e,vca,vta]
 exact fin _ _ gr _ _ _ _ (by simp[sx,h3]) (by simp[sx,h4]) (by simp[H.get_put]) (by simp[H.get_put,g2e]) (s1.far fun i hi=>by simp[H.get_put];intro e;have:3≤i:=hi;omega) (s2.far fun i hi=>by simp[H.get_put];intro e;have:3≤i:=hi;omega) (s3 gr)
theorem bend9 {d K:Nat}{x:BendM}{gr:Int}{R n J:Nat}{Rt:Nat→List Int}{c:Nat→Int}{F:Nat→Nat→List Int}(hK:K≤1000000)(hR:R≤K)(hn:n≤K)(hJ:J<n){t:T}{g':G}{V:Ky→AV}{E:Ky→En}{Qk:QT}
  (h2:tat t 2=.hptr 0 0 0 0) (h3:tat t 3=.hptr 1 0 0 0) (h4:tat t 4=.hptr 2 0 0 0) (h5:tat t 5=V (4,0)) (h8:tat t 8=V (4,1)) (h11:tat t 11=rptr 4 (V (4,1)) J 0) (hH:Hp g' 3 (LB R n) V E)
  (f0:g'.h.get 0=.cells 4 [[u8v x.1,u8v x.2.1,u8v x.2.2.1,.int .i64 x.2.2.2]] 0 false false) (f1:g'.h.get 1=.cells 3 [[.int .i64 gr,V (4,0),V (4,1)]] 0 false false) (f2:g'.h.get 2=.cells 3 [[.int .i64 0,.nils,.nils]] 0 false false) (hD:BD K R n V E Rt c F)
  (fin:∀t g gr rv nv rts nds,tat t 3=.hptr 1 0 0 0→tat t 4=.hptr 2 0 0 0→g.h.get 1=.cells 3 [[.int .i64 gr,rv,nv]] 0 false false→g.h.get 2=.cells 3 [[.int .i64 0,.nils,.nils]] 0 false false→SlR P3 0 g.h rts rv→SlR P3 0 g.h nds nv→Bnd (K+1) ⟨gr,rts,nds⟩→Qk .norm t [] g) :
  wp C0 d none (.ops [o 230 (.mv (.t 8)),o 231 (.bsl 1 1 [.int .i64 0] [0] [.k (.int .i64 0)]),o 232 (.build [.int .i64 0,.nils,.nils,.nils] [(0,1),(3,1)] [.k (.int .i64 1),.t 231]),o 233 (.bsl 4 1 [.int .i64 0,.nils,.nils,.nils] [0] [.t 232]),o 234 (.app 4 80 (.t 230) (.t 233)),o 235 (.fad 2 (.t 3)),oz (.store 1 (.t 235) (.t 234))]) Qk t [] g':=by
 have o0:=hH.own (k:=(4,0)) (by simp[LB]) hD.rs
 have o1:=hH.own (k:=(4,1)) (by simp[LB]) hD.ns
 have hDu:=hD.up (show K≤K+1 by omega)
 have hn0:0<n:=by omega
 have ry1:rowy (V (4,1))=true:=rowy_of o1.rows (i:=0) (by simpa using hn0)
 have lrow:((List.range n).map fun i=>[AV.int .i64 (c i),V (1,i),V (2,i),V (3,i)]).length=n:=by simp
 have hrowJ:((List.range n).map fun i=>[AV.int .i64 (c i),V (1,i),V (2,i),V (3,i)])[J]?=some [AV.int .i64 (c J),V (1,J),V (2,J),V (3,J)]:=by simp[hJ]
 have hnx:=hH.nx
 simp only[sx,sy,SO.run,↓reduceIte,Nat.reduceEqDiff,Nat.reduceAdd,Nat.reduceLeDiff,h3,h8,f1]
 have hA:=(hH.add (k:=(3,n)) (L':=fun k=>LB R n k∨k=(3,n)) (g':=g'.new (.cells 1 [[.int .i64 0]] 0 false false)) (v':=.hsl g'.nx 0 0 1 none) (e':=.sl 1 [[.int .i64 0]]) (fun h=>lx_ne h 3 (by omega) (by omega) rfl) (own_one hnx _) (by simp) (fun i _ hi=>by rw[G.new_h,get_put_ne _ _ _ (by omega)]) (fun i hi=>by injection hi with hi;omega) (fun k hk=>hk))
 have hA2:=hA.add (k:=(2,n)) (L':=fun k=>LB R n k∨k=(3,n)∨k=(2,n)) (v':=.nils) (e':=.sl 1 []) (by rintro (h | h);exact lx_ne h 2 (by omega) (by omega) rfl;simp at h) (.inl ⟨rfl,rfl⟩) (Nat.le_refl _) (fun _ _ _=>rfl) (fun i hi=>by cases hi) (fun k hk=>by rcases hk with h | h | h;exact .inl (.inl h);exact .inl (.inr h);exact .inr h)
 have hA3:=hA2.add (k:=(1,n)) (L':=LB R (n+1)) (v':=.nils) (e':=.sl 1 []) (by rintro (h | h | h);exact lx_ne h 1 (by omega) (by omega) rfl;simp at h;simp at h) (.inl ⟨rfl,rfl⟩) (Nat.le_refl _) (fun _ _ _=>rfl) (fun i hi=>by cases hi) (fun k hk=>by
  rcases hk with h | ⟨a1,a2,a3⟩ | h
  ·exact .inl (.inl (.inl h))
  ·by_cases e:k.2=n
   ·have:k.1=1∨k.1=2∨k.1=3:=by omega
    rcases this with h | h | h
    ·exact .inr (Prod.ext h e)
    ·exact .inl (.inr (.inr (Prod.ext h e)))
    ·exact .inl (.inr (.inl (Prod.ext h e)))
   ·exact .inl (.inl (.inr (.inl ⟨a1,a2,by omega⟩)))
  ·exact .inl (.inl (.inr (.inr h))))
 have hB:=hA3.step (g':=(g'.new (.cells 1 [[.int .i64 0]] 0 false false)).new (.cells 4 [[.int .i64 1,.nils,.nils,.hsl g'.nx 0 0 1 none]] 0 false false)) (by simp) (fun i _ hi=>by rw[G.new_h,get_put_ne _ _ _ (by omega)])
 obtain ⟨V1,hV1⟩:∃V1,V1=ups (ups (ups V (3,n) (.hsl g'.nx 0 0 1 none)) (2,n) .nils) (1,n) .nils:=⟨_,rfl⟩
 obtain ⟨E1,hE1⟩:∃E1,E1=ups (ups (ups E (3,n) (.sl 1 [[.int .i64 0]])) (2,n) (.sl 1 [])) (1,n) (.sl 1 []):=⟨_,rfl⟩
 rw[←hV1,←hE1] at hB
 have old:∀k,LB R n k→V1 k=V k∧E1 k=E k:=fun k hk=>by
  rw[hV1,hE1,ups_ne _ _ (lx_ne hk 1 (by omega) (by omega)),ups_ne _ _ (lx_ne hk 2 (by omega) (by omega)),ups_ne _ _ (lx_ne hk 3 (by omega) (by omega)),ups_ne _ _ (lx_ne hk 1 (by omega) (by omega)),ups_ne _ _ (lx_ne hk 2 (by omega) (by omega)),ups_ne _ _ (lx_ne hk 3 (by omega) (by omega))]
  exact ⟨rfl,rfl⟩
 have n1:V1 (1,n)=.nils∧E1 (1,n)=.sl 1 []:=by rw[hV1,hE1];simp[ups_ne,ups_self]
 have n2:V1 (2,n)=.nils∧E1 (2,n)=.sl 1 []:=by rw[hV1,hE1];simp[ups_ne,ups_self]
 have n3:V1 (3,n)=.hsl g'.nx 0 0 1 none∧E1 (3,n)=.sl 1 [[.int .i64 0]]:=by rw[hV1,hE1];simp[ups_ne,ups_self]
 have e40:=old (4,0) (by simp[LB])
 have e41:=old (4,1) (by simp[LB])
 rw[←e41.1]
 refine hB.app (k:=(4,1)) (by simp[LB]) (by rw[e41.2];exact hD.ns) (new:=[[.int .i64 1,.nils,.nils,.hsl g'.nx 0 0 1 none]]) (by simp[sx,sy,H.get_put]) (by simp[room];omega) fun v1 gb hHb nb frb _ _ vca vta=>?_
 simp only[sx,sy] at nb frb
 have g1e:gb.h.get 1=.cells 3 [[.int .i64 gr,V (4,0),V (4,1)]] 0 false false:=by rw[frb 1 (by omega),if_neg (by omega),if_neg (by omega),f1]
 have g2e:gb.h.get 2=.cells 3 [[.int .i64 0,.nils,.nils]] 0 false false:=by rw[frb 2 (by omega),if_neg (by omega),if_neg (by omega),f2]
 have hDb:BD (K+1) R (n+1) (ups V1 (4,1) v1) (ups E1 (4,1) (.sl 4 (((List.range n).map fun i=>[.int .i64 (c i),V (1,i),V (2,i),V (3,i)])++[[.int .i64 1,.nils,.nils,.hsl g'.nx 0 0 1 none]]))) Rt (ups c n 1) (fun q=>ups (F q) n (if q=3 then [0] else [])):=by
  refine ⟨fun i hi=>?_,fun q' i a1 a2 hi=>?_,?_,?_⟩
  ·rw[ups_ne _ _ (by simp),(old (0,i) (.inl ⟨rfl,hi⟩)).2];exact hDu.r i hi
  ·rw[ups_ne _ _ (by simp;omega)]
   by_cases e:i=n
   ·subst e
    rw[ups_self]
    have:q'=1∨q'=2∨q'=3:=by omega
    rcases this with rfl | rfl | rfl
    ·exact ⟨n1.2,by simp⟩
    ·exact ⟨n2.2,by simp⟩
    ·exact ⟨n3.2,by simp⟩
   ·rw[ups_ne _ _ e,(old (q',i) (.inr (.inl ⟨a1,a2,by omega⟩))).2];exact hDu.f q' i a1 a2 (by omega)
  ·rw[ups_ne _ _ (by simp),e40.2,hD.rs]
   refine congrArg (En.sl 1) (List.map_congr_left fun i hi=>?_)
   have hi:=List.mem_range.1 hi
   rw[ups_ne _ _ (by simp),(old (0,i) (.inl ⟨rfl,hi⟩)).1]
  ·rw[ups_self,List.range_succ,List.map_append]
   congr 2
   ·refine List.map_congr_left fun i hi=>?_
    have hi:=List.mem_range.1 hi
    rw[ups_ne c _ (show i≠n by omega),ups_ne V1 (j:=(1,i)) _ (by simp),ups_ne V1 (j:=(2,i)) _ (by simp),ups_ne V1 (j:=(3,i)) _ (by simp),(old (1,i) (.inr (.inl ⟨by simp,by simp,hi⟩))).1,(old (2,i) (.inr (.inl ⟨by simp,by simp,hi⟩))).1,(old (3,i) (.inr (.inl ⟨by simp,by simp,hi⟩))).1]
   ·simp[ups_ne,ups_self,n1.1,n2.1,n3.1]
 obtain ⟨s1,s2,s3⟩:=hDb.sl hHb (by omega) (by omega) (by omega)
 rw[ups_self] at s2
 rw[ups_ne _ _ (by simp),e40.1] at s1
 simp only[sx,sy,SO.run,↓reduceIte,Nat.reduceEqDiff,Nat.reduceAdd,Nat.reduceLeDiff,h3,g1e,vca,vta]
 exact fin _ _ gr _ _ _ _ (by simp[sx,h3]) (by simp[sx,h4]) (by simp[H.get_put]) (by simp[H.get_put,g2e]) (s1.far fun i hi=>by simp[H.get_put];intro e;have:3≤i:=hi;omega) (s2.far fun i hi=>by simp[H.get_put];intro e;have:3≤i:=hi;omega) (s3 gr)
theorem slc_hiT {α:Type} [Rp α]{g:G}{b:Nat}{u:AV}{rows:List (List AV)}(hu:Own g b u (Rp.sz α) rows)(hne:rows≠[]){n:Nat}(hn:n≤rows.length) :
  ∃y,slcV (Rp.sz α) u none (some (.int .i64 (n:Int))) g=.val y∧(y.cells=[y]∧y.isTup=false)∧∀(P:Nat→Prop) (k:Nat) (l:List α),SlR P k g.h l u→SlR P k g.h (l.take n) y:=by
 rcases hu with ⟨rfl,rfl⟩ | ⟨id,ep,lo,h1,h2,rfl,h3⟩
 ·exact absurd rfl hne
 ·simp only[slcV,sliceA,h3,Nat.beq_refl,Bool.true_and,lenR_eq,Nat.zero_add,bif'_eq,Nat.ble_eq,Nat.le_refl,if_true,boundOf,Option.getD_none,Nat.sub_zero]
  simp only[natOf]
  rw[show bif' (n.ble rows.length) (some n) none=some n from by rw[bif'_eq,if_pos (by simpa using hn)]]
  dsimp only
  have hb:rows.length.beq 0=false:=by cases rows with | nil=>exact absurd rfl hne | cons a l=>rfl
  rw[hb]
  refine ⟨_,rfl,⟨rfl,rfl⟩,fun P k l h=>?_⟩
  obtain ⟨hl,hp,rr,q1,q2⟩:=h
  rw[rowsOf_hsl,h3,hslRows_all] at q1
  injection q1 with q1;subst q1
  refine ⟨by rw[List.length_take];omega,hp,rows.take n,?_,q2.take n⟩
  rw[rowsOf_hsl,h3,hslRows_cells,if_pos (by omega),List.drop_zero]
theorem bend10 {d K:Nat}{x:BendM}{gr:Int}{R n J:Nat}{Rt:Nat→List Int}{c:Nat→Int}{F:Nat→Nat→List Int}(hK:K≤1000000)(hR:R≤K)(hn:n≤K)(hJ:J<n){t:T}{g':G}{V:Ky→AV}{E:Ky→En}{Qk:QT}
  (h2:tat t 2=.hptr 0 0 0 0) (h3:tat t 3=.hptr 1 0 0 0) (h4:tat t 4=.hptr 2 0 0 0) (h5:tat t 5=V (4,0)) (h8:tat t 8=V (4,1)) (h11:tat t 11=rptr 4 (V (4,1)) J 0) (hH:Hp g' 3 (LB R n) V E)
  (f0:g'.h.get 0=.cells 4 [[u8v x.1,u8v x.2.1,u8v x.2.2.1,.int .i64 x.2.2.2]] 0 false false) (f1:g'.h.get 1=.cells 3 [[.int .i64 gr,V (4,0),V (4,1)]] 0 false false) (f2:g'.h.get 2=.cells 3 [[.int .i64 0,.nils,.nils]] 0 false false) (hD:BD K R n V E Rt c F)
  (fin:∀t g gr rv nv rts nds,tat t 3=.hptr 1 0 0 0→tat t 4=.hptr 2 0 0 0→g.h.get 1=.cells 3 [[.int .i64 gr,rv,nv]] 0 false false→g.h.get 2=.cells 3 [[.int .i64 0,.nils,.nils]] 0 false false→SlR P3 0 g.h rts rv→SlR P3 0 g.h nds nv→Bnd (K+1) ⟨gr,rts,nds⟩→Qk .norm t [] g) :
  wp C0 d none (.ops [o 97 (.mv (.t 8)),o 98 (.mv (.t 8)),o 99 (.len .slice (.t 98)),o 100 (.bin .sub (.t 99) (.k (.int .i64 1))),o 101 (.slc 4 (.t 97) [] [.t 100]),o 102 (.fad 2 (.t 3)),oz (.store 1 (.t 102) (.t 101))]) Qk t [] g':=by
 have o0:=hH.own (k:=(4,0)) (by simp[LB]) hD.rs
 have o1:=hH.own (k:=(4,1)) (by simp[LB]) hD.ns
 have hDu:=hD.up (show K≤K+1 by omega)
 have hn0:0<n:=by omega
 have ry1:rowy (V (4,1))=true:=rowy_of o1.rows (i:=0) (by simpa using hn0)
 have lrow:((List.range n).map fun i=>[AV.int .i64 (c i),V (1,i),V (2,i),V (3,i)]).length=n:=by simp
 have hrowJ:((List.range n).map fun i=>[AV.int .i64 (c i),V (1,i),V (2,i),V (3,i)])[J]?=some [AV.int .i64 (c J),V (1,J),V (2,J),V (3,J)]:=by simp[hJ]
 have hnx:=hH.nx
 have len1:=len_rows' o1.rows
 rw[lrow] at len1
 obtain ⟨s1,s2,s3⟩:=hDu.sl hH (by omega) (by omega) (by omega)
 have e1:((n:Int) - 1)=((n - 1:Nat):Int):=by omega
 simp only[sx,sy,SO.run,↓reduceIte,Nat.reduceEqDiff,Nat.reduceAdd,Nat.reduceLeDiff,h3,h8,f1,len1,wrap64 (show -9223372036854775808≤(n:Int) - 1 by omega) (show (n:Int) - 1<9223372036854775808 by omega),List.head?_nil,List.head?_cons]
 rw[e1]
 obtain ⟨y,q1,q2,q3⟩:=slc_hiT (α:=Mech) o1 (n:=n - 1) (by intro h;have:=congrArg List.length h;rw[lrow] at this;simp at this;omega) (by rw[lrow];omega)
 have q1:slcV 4 (V (4,1)) none (some (.int .i64 ((n - 1:Nat):Int))) g'=.val y:=q1
 simp only[sx,sy,SO.run,↓reduceIte,Nat.reduceEqDiff,Nat.reduceAdd,Nat.reduceLeDiff,q1,h3,f1,q2.1,q2.2]
 have s2':SlR P3 0 g'.h (((List.range n).map fun i=>(⟨c i,F 1 i,F 2 i,F 3 i⟩:Mech)).take (n - 1)) y:=q3 P3 0 _ s2
 exact fin _ _ gr _ _ _ _ (by simp[sx,h3]) (by simp[sx,h4]) (by simp[H.get_put]) (by simp[H.get_put,f2]) (s1.far fun i hi=>by simp[H.get_put];intro e;have:3≤i:=hi;omega) (s2'.far fun i hi=>by simp[H.get_put];intro e;have:3≤i:=hi;omega)
  ⟨(s3 gr).r,(s3 gr).rr,by have:=(s3 gr).n;simp at this ⊢;omega,fun x hx=>(s3 gr).f x (List.mem_of_mem_take hx)⟩
end
end Hx
end
section
namespace Hx
open Go
noncomputable section
theorem bk3 {d K:Nat}{x:BendM}{gr:Int}{a b:AV}{R n:Nat}{Rt:Nat→List Int}{c:Nat→Int}{F:Nat→Nat→List Int}(hK:K≤1000000)(hR:R≤K)(hn:n≤K){t:T}{g:G}{V:Ky→AV}{E:Ky→En}
  (ht:St t [(2,.hptr 0 0 0 0),(3,.hptr 1 0 0 0),(4,.hptr 2 0 0 0)]) (h5:tat t 5=V (4,0)) (h8:tat t 8=V (4,1)) (hH:Hp g 3 (LB R n) V E) (hB:BB g [u8v x.1,u8v x.2.1,u8v x.2.2.1,.int .i64 x.2.2.2] gr a b) (hD:BD K R n V E Rt c F) :
  wp C0 d none f_ref33_Bend_Of_k3 (fnQ C0 d [SR.cell true 3 4] fun v g'=>∃P,BendV (K+1) P 0 g'.h v) t [] g:=by
 obtain ⟨h2,h3,h4,-⟩:=ht
 obtain ⟨b0,b1,b2⟩:=hB
 have o0:=hH.own (k:=(4,0)) (by simp[LB]) hD.rs
 have o1:=hH.own (k:=(4,1)) (by simp[LB]) hD.ns
 have len1:=len_rows' o1.rows
 rw[List.length_map,List.length_range] at len1
 have hnx:=hH.nx
 have hfr:∀i,3≤i→((g.put 1 (.cells 3 [[.int .i64 gr,V (4,0),b]] 0 false false)).put 1 (.cells 3 [[.int .i64 gr,V (4,0),V (4,1)]] 0 false false)).h.get i=g.h.get i:=fun i hi=>by
  rw[G.put_h,get_put_ne _ _ _ (by omega),G.put_h,get_put_ne _ _ _ (by omega)]
 have hH:=hH.step (g':=(g.put 1 (.cells 3 [[.int .i64 gr,V (4,0),b]] 0 false false)).put 1 (.cells 3 [[.int .i64 gr,V (4,0),V (4,1)]] 0 false false)) (by simp) fun i hi _=>hfr i hi
 have f0:((g.put 1 (.cells 3 [[.int .i64 gr,V (4,0),b]] 0 false false)).put 1 (.cells 3 [[.int .i64 gr,V (4,0),V (4,1)]] 0 false false)).h.get 0=.cells 4 [[u8v x.1,u8v x.2.1,u8v x.2.2.1,.int .i64 x.2.2.2]] 0 false false:=by simp[H.get_put,b0]
 have f1:((g.put 1 (.cells 3 [[.int .i64 gr,V (4,0),b]] 0 false false)).put 1 (.cells 3 [[.int .i64 gr,V (4,0),V (4,1)]] 0 false false)).h.get 1=.cells 3 [[.int .i64 gr,V (4,0),V (4,1)]] 0 false false:=by simp[H.get_put]
 have f2:((g.put 1 (.cells 3 [[.int .i64 gr,V (4,0),b]] 0 false false)).put 1 (.cells 3 [[.int .i64 gr,V (4,0),V (4,1)]] 0 false false)).h.get 2=.cells 3 [[.int .i64 0,.nils,.nils]] 0 false false:=by simp[H.get_put,b2]
 simp only[f_ref33_Bend_Of_k3,sx,sy,SO.run,↓reduceIte,Nat.reduceEqDiff,Nat.reduceAdd,Nat.reduceLeDiff,h2,h3,h4,h5,h8,b1,len1,o0.cell.1,o0.cell.2,o1.cell.1,o1.cell.2]
 obtain ⟨g1,hg1⟩:∃g1,g1=(g.put 1 (.cells 3 [[.int .i64 gr,V (4,0),b]] 0 false false)).put 1 (.cells 3 [[.int .i64 gr,V (4,0),V (4,1)]] 0 false false):=⟨_,rfl⟩
 rw[←hg1] at hH f0 f1 f2 ⊢
 clear hfr hg1 b0 b1 b2
 have o1:=hH.own (k:=(4,1)) (by simp[LB]) hD.ns
 have hDu:=hD.up (show K≤K+1 by omega)
 refine bifP_mk (fun hb=>?_) (fun hb=>?_)
 ·simp only[sx,sy,SO.run,↓reduceIte,Nat.reduceEqDiff,Nat.reduceAdd,Nat.reduceLeDiff,h3,h4,f1,f2]
  obtain ⟨s1,s2,s3⟩:=hDu.sl hH (by omega) (by omega) (by omega)
  refine ⟨P3,_,s3 gr,_,rfl,?_⟩
  exact Rp.mono (P:=P3) (h:=g1.h) (rp_causal.2 ⟨_,_,rfl,s1,s2⟩) (fun i hi=>⟨hi,by rw[get_put_ne _ _ _ (by have:3≤i:=hi;omega)]⟩) (Nat.le_refl _)
 have hn0:0<n:=by simp at hb;omega
 have ry1:rowy (V (4,1))=true:=rowy_of o1.rows (i:=0) (by simpa using hn0)
 have at8:x.2.1.toNat<256:=x.2.1.toNat_lt
 have em:((x.2.1.toNat:Int) % (n:Int))=((x.2.1.toNat % n:Nat):Int):=by omega
 have hJ:x.2.1.toNat % n<n:=Nat.mod_lt _ hn0
 obtain ⟨J,hJe⟩:∃J,J=x.2.1.toNat % n:=⟨_,rfl⟩
 rw[←hJe] at em hJ
 have lrow:((List.range n).map fun i=>[AV.int .i64 (c i),V (1,i),V (2,i),V (3,i)]).length=n:=by simp
 rw[wp_skip,kS_norm]
 refine seq_cut (P:=fun t df g'=>df=[]∧g'=g1∧St t [(2,.hptr 0 0 0 0),(3,.hptr 1 0 0 0),(4,.hptr 2 0 0 0),(5,V (4,0)),(8,V (4,1)),(11,rptr 4 (V (4,1)) J 0)]) ?_ ?_
 ·simp only[sx,sy,SO.run,↓reduceIte,Nat.reduceEqDiff,Nat.reduceAdd,Nat.reduceLeDiff,h2,h3,h4,h5,h8,f0,len1,u8v,wrap64 (show -9223372036854775808≤(x.2.1.toNat:Int) by omega) (show (x.2.1.toNat:Int)<9223372036854775808 by omega),bin_rem .i64 (show (0:Int)≤(x.2.1.toNat:Int) by omega) (show 0<(n:Int) by omega),em,o1.rows,lrow,hJ,Option.isSome_some,Option.getD_some,St]
 clear h2 h3 h4 h5 h8
 rintro t df g' ⟨rfl,rfl,h2,h3,h4,h5,h8,h11,-⟩
 have w8:x.1.toNat<256:=x.1.toNat_lt
 have last:∀(t:T) (g:G) (gr:Int) (rv nv:AV) (rts:List (List Int)) (nds:List Mech),tat t 3=.hptr 1 0 0 0→tat t 4=.hptr 2 0 0 0→g.h.get 1=.cells 3 [[.int .i64 gr,rv,nv]] 0 false false→g.h.get 2=.cells 3 [[.int .i64 0,.nils,.nils]] 0 false false→SlR P3 0 g.h rts rv→SlR P3 0 g.h nds nv→Bnd (K+1) ⟨gr,rts,nds⟩ →
   kB 4 (kS (wp C0 d none f_ref33_Bend_Of_k2 (fnQ C0 d [SR.cell true 3 4] fun v g'=>∃P,BendV (K+1) P 0 g'.h v)) (fnQ C0 d [SR.cell true 3 4] fun v g'=>∃P,BendV (K+1) P 0 g'.h v)) .norm t [] g:=fun t g gr rv nv rts nds h3 h4 e1 e2 s1 s2 s3=>by
  rw[kB_norm,kS_norm]
  exact bk2 h3 h4 e1 e2 s1 s2 s3
 simp only[sx,sy,SO.run,↓reduceIte,Nat.reduceEqDiff,Nat.reduceAdd,Nat.reduceLeDiff,h2,f0,u8v,bin_rem .u8 (show (0:Int)≤(x.1.toNat:Int) by omega) (show (0:Int)<11 by decide)]
 refine bifP_mk (fun hb=>?_) (fun hb=>?_)
 ·exact bend0 hK hR hn hJ (by simp[sx,h2]) (by simp[sx,h3]) (by simp[sx,h4]) (by simp[sx,h5]) (by simp[sx,h8]) (by simp[sx,h11]) hH f0 f1 f2 hD last
 simp only[sx,sy,SO.run,↓reduceIte,Nat.reduceEqDiff,Nat.reduceAdd,Nat.reduceLeDiff]
 refine bifP_mk (fun hb=>?_) (fun hb=>?_)
 ·exact bend1 hK hR hn hJ (by simp[sx,h2]) (by simp[sx,h3]) (by simp[sx,h4]) (by simp[sx,h5]) (by simp[sx,h8]) (by simp[sx,h11]) hH f0 f1 f2 hD last
 simp only[sx,sy,SO.run,↓reduceIte,Nat.reduceEqDiff,Nat.reduceAdd,Nat.reduceLeDiff]
 refine bifP_mk (fun hb=>?_) (fun hb=>?_)
 ·exact bend2 hK hR hn hJ (by simp[sx,h2]) (by simp[sx,h3]) (by simp[sx,h4]) (by simp[sx,h5]) (by simp[sx,h8]) (by simp[sx,h11]) hH f0 f1 f2 hD last
 simp only[sx,sy,SO.run,↓reduceIte,Nat.reduceEqDiff,Nat.reduceAdd,Nat.reduceLeDiff]
 refine bifP_mk (fun hb=>?_) (fun hb=>?_)
 ·exact bend3 hK hR hn hJ (by simp[sx,h2]) (by simp[sx,h3]) (by simp[sx,h4]) (by simp[sx,h5]) (by simp[sx,h8]) (by simp[sx,h11]) hH f0 f1 f2 hD last
 simp only[sx,sy,SO.run,↓reduceIte,Nat.reduceEqDiff,Nat.reduceAdd,Nat.reduceLeDiff]
 refine bifP_mk (fun hb=>?_) (fun hb=>?_)
 ·exact bend4 hK hR hn hJ (by simp[sx,h2]) (by simp[sx,h3]) (by simp[sx,h4]) (by simp[sx,h5]) (by simp[sx,h8]) (by simp[sx,h11]) hH f0 f1 f2 hD last
 simp only[sx,sy,SO.run,↓reduceIte,Nat.reduceEqDiff,Nat.reduceAdd,Nat.reduceLeDiff]
 refine bifP_mk (fun hb=>?_) (fun hb=>?_)
 ·exact bend5 hK hR hn hJ (by simp[sx,h2]) (by simp[sx,h3]) (by simp[sx,h4]) (by simp[sx,h5]) (by simp[sx,h8]) (by simp[sx,h11]) hH f0 f1 f2 hD last
 simp only[sx,sy,SO.run,↓reduceIte,Nat.reduceEqDiff,Nat.reduceAdd,Nat.reduceLeDiff]
 refine bifP_mk (fun hb=>?_) (fun hb=>?_)
 ·exact bend6 hK hR hn hJ (by simp[sx,h2]) (by simp[sx,h3]) (by simp[sx,h4]) (by simp[sx,h5]) (by simp[sx,h8]) (by simp[sx,h11]) hH f0 f1 f2 hD last
 simp only[sx,sy,SO.run,↓reduceIte,Nat.reduceEqDiff,Nat.reduceAdd,Nat.reduceLeDiff]
 refine bifP_mk (fun hb=>?_) (fun hb=>?_)
 ·exact bend7 hK hR hn hJ (by simp[sx,h2]) (by simp[sx,h3]) (by simp[sx,h4]) (by simp[sx,h5]) (by simp[sx,h8]) (by simp[sx,h11]) hH f0 f1 f2 hD last
 simp only[sx,sy,SO.run,↓reduceIte,Nat.reduceEqDiff,Nat.reduceAdd,Nat.reduceLeDiff]
 refine bifP_mk (fun hb=>?_) (fun hb=>?_)
 ·exact bend8 hK hR hn hJ (by simp[sx,h2]) (by simp[sx,h3]) (by simp[sx,h4]) (by simp[sx,h5]) (by simp[sx,h8]) (by simp[sx,h11]) hH f0 f1 f2 hD last
 simp only[sx,sy,SO.run,↓reduceIte,Nat.reduceEqDiff,Nat.reduceAdd,Nat.reduceLeDiff]
 refine bifP_mk (fun hb=>?_) (fun hb=>?_)
 ·exact bend9 hK hR hn hJ (by simp[sx,h2]) (by simp[sx,h3]) (by simp[sx,h4]) (by simp[sx,h5]) (by simp[sx,h8]) (by simp[sx,h11]) hH f0 f1 f2 hD last
 exact bend10 hK hR hn hJ (by simp[sx,h2]) (by simp[sx,h3]) (by simp[sx,h4]) (by simp[sx,h5]) (by simp[sx,h8]) (by simp[sx,h11]) hH f0 f1 f2 hD last
theorem bendOf_ok {d K:Nat}{g:G}{x:BendM}{m:Causal}{v w:AV}(hd:0<d)(hx:Agg x NoP 0 g.h v)(hm:Agg m NoP 0 g.h w)(hb:Bnd K m)(hK:K≤1000000):∃r,callV C0 d N.ref33_Bend_Of [v,w] g=.val r∧BendV (K+1) NoP 0 .nil r:=by
 have e0:=agg_same d hx
 have e1:=agg_same d hm
 obtain ⟨cs,rfl,hc⟩:=hx
 have hc:=rp_bendM.1 hc
 subst hc
 obtain ⟨cs,rfl,hc⟩:=hm
 obtain ⟨a,b,rfl,hR,hN⟩:=rp_causal.1 hc
 rw[call_ref33_Bend_Of]
 refine iso_run eq_ref33_Bend_Of (xs:=[.agg [u8v x.1,u8v x.2.1,u8v x.2.2.1,.int .i64 x.2.2.2],.agg [.int .i64 m.grain,a,b]]) (by simp only[mapO,e0,e1]) (by simp[f_ref33_Bend_Of]) (snb_bend (K+1)) (by decide) hd ?_
 clear e0 e1 hc
 have hR:=hR.tree (h':=.nil) (Nat.le_refl _)
 have hN:=hN.tree (h':=.nil) (Nat.le_refl _)
 simp only[f_ref33_Bend_Of,sx,sy,SO.run,↓reduceIte,Nat.reduceEqDiff,Nat.reduceAdd,Nat.reduceLeDiff]
 obtain ⟨g0,hg0⟩:∃g0,g0=((G.empty.new (.cells 4 [[u8v x.1,u8v x.2.1,u8v x.2.2.1,.int .i64 x.2.2.2]] 0 false false)).new (.cells 3 [[.int .i64 m.grain,a,b]] 0 false false)).new (.cells 3 [[.int .i64 0,.nils,.nils]] 0 false false):=⟨_,rfl⟩
 rw[←hg0]
 have f0:BB g0 [u8v x.1,u8v x.2.1,u8v x.2.2.1,.int .i64 x.2.2.2] m.grain a b:=by rw[hg0];exact ⟨by simp[sx,H.get_put],by simp[sx,H.get_put],by simp[sx,H.get_put]⟩
 have f3:g0.nx=3:=by rw[hg0];simp[sx]
 clear hg0
 have hH:Hp g0 3 (LB 0 0) (fun _=>.nils) (fun k=>if k=(4,1) then .sl 4 [] else .sl 1 []) :=
  ⟨fun k _=>by by_cases e:k=(4,1);(· simp only[if_pos e];exact .inl ⟨rfl,rfl⟩);(· simp only[if_neg e];exact .inl ⟨rfl,rfl⟩),fun k l _ _ _ id h=>(by cases h),by omega⟩
 simp only[f_ref33_Bend_Of_r,sx,sy,SO.run,↓reduceIte,Nat.reduceEqDiff,Nat.reduceAdd,Nat.reduceLeDiff]
 refine m_bb0 (V:=fun _=>.nils) hR hK hb (by simp[St,sx]) (by simp[sx]) (by simp[sx]) hH f0 ⟨fun i hi=>by omega,fun q i _ _ hi=>by omega,by simp,by simp⟩ ?_ rfl
 clear hH
 rintro t g V E Rt ⟨h2,h3,h4,-⟩ h5 hH hB hD hV1
 simp only[f_ref33_Bend_Of_k4,sx,sy,SO.run,↓reduceIte,Nat.reduceEqDiff,Nat.reduceAdd,Nat.reduceLeDiff]
 refine m_bb1 hN hK hb hb.r (by simp[St,sx,h2,h3,h4]) (by simp[sx,h5]) (by simp[sx,hV1]) (by simp[sx]) hH hB hD ?_
 clear h2 h3 h4 h5 hH hB hD
 intro t g V E c F ht h5 h8 hH hB hD
 simp only[sx,sy,SO.run,↓reduceIte,Nat.reduceEqDiff,Nat.reduceAdd,Nat.reduceLeDiff]
 exact bk3 hK hb.r hb.n ht h5 h8 hH hB hD
end
end Hx
end
section
namespace Hx
open Go
noncomputable section
theorem made_len {m:Causal}(h:Made m):(1≤m.nodes.length∧m.nodes.length≤4)∧(∀x∈m.nodes,x.card=2∨x.card=3)∧Bnd 20000 m:=by
 obtain ⟨e,c,R,F,N,O,num,rfl,hn,hg,hF,hR,hN,hlt,hinj,hsur,hnd⟩:=h.ex
 refine ⟨by simpa [mkM] using hn,fun x hx=>?_,?_⟩
 ·obtain ⟨i,hi,rfl⟩:=List.mem_map.1 hx
  exact hF.card i (List.mem_range.1 hi)
 ·refine ⟨by show R.length≤_;omega,fun r hr=>?_,by simp[mkM];omega,fun x hx=>?_⟩
  ·obtain ⟨q,z,-,-,-,rfl⟩:=hF.roots r hr
   have:=weights_len e.gr q z
   omega
  ·obtain ⟨i,hi,rfl⟩:=List.mem_map.1 hx
   have hi:=List.mem_range.1 hi
   obtain ⟨k,hk,rfl⟩:=hsur i hi
   refine ⟨by have:=(hnd k hk).len;show (F (num k)).length≤_;omega,by have:=hN (num k);show (N (num k)).length≤_;omega,?_⟩
   show (O (num k)).length≤_
   rw[(hnd k hk).outs]
   refine Nat.le_trans allF_len ?_
   have hb:=szs_bound hF (hnd k hk).places (hF.inc _ hi)
   have:=prod_bound (l:=szs c R (F (num k)) (N (num k))) fun y hy=>by have:=hb y hy;omega
   have hl4:(szs c R (F (num k)) (N (num k))).length≤7:=by have:=(hnd k hk).len;have:=hN (num k);simp[szs];omega
   have:=pow4_mono hl4
   have:(4:Int) ^ 7=16384:=by decide
   omega
def ModelsV:VS:=fun P k h v=>∃m1 m2 m3,Bnd 30000 m1∧Bnd 30000 m2∧Bnd 30000 m3∧Agg ((m1,m2,m3):Causal×Causal×Causal) P k h v
theorem snb_models:Snb ModelsV 1:=by
 refine ⟨fun {P k h v n} d r hn=>?_,fun {k h v n} r hn=>?_⟩
 ·obtain ⟨m1,m2,m3,a,b,c,r⟩:=r
  obtain ⟨v',e,r'⟩:=(snb_agg ((m1,m2,m3):Causal×Causal×Causal)).snap d r hn
  exact ⟨v',e,m1,m2,m3,a,b,c,r'⟩
 ·obtain ⟨m1,m2,m3,a,b,c,r⟩:=r
  exact (snb_agg ((m1,m2,m3):Causal×Causal×Causal)).tag r hn
theorem Bnd.up {K K':Nat}{m:Causal}(h:Bnd K m)(hk:K≤K'):Bnd K' m :=
 ⟨by have:=h.r;omega,fun x hx=>by have:=h.rr x hx;omega,by have:=h.n;omega,fun x hx=>by have:=h.f x hx;omega⟩
theorem models_ok {d:Nat}{g:G}{x:DraftM}{y z:BendM}{u v w:AV}(hd:0<d)(hx:Agg x NoP 0 g.h u)(hy:Agg y NoP 0 g.h v)(hz:Agg z NoP 0 g.h w) :
  ∃r,callV C0 d N.law33_models [u,v,w] g=.val r∧ModelsV NoP 0 .nil r:=by
 have e0:=agg_same d hx
 have e1:=agg_same d hy
 have e2:=agg_same d hz
 have hx':∀h,Agg x NoP 0 h u:=fun h=>by obtain ⟨cs,rfl,q⟩:=hx;exact ⟨cs,rfl,Rp.tree q (Nat.le_refl _)⟩
 have hy':∀h,Agg y NoP 0 h v:=fun h=>by obtain ⟨cs,rfl,q⟩:=hy;exact ⟨cs,rfl,Rp.tree q (Nat.le_refl _)⟩
 have hz':∀h,Agg z NoP 0 h w:=fun h=>by obtain ⟨cs,rfl,q⟩:=hz;exact ⟨cs,rfl,Rp.tree q (Nat.le_refl _)⟩
 rw[call_law33_models]
 refine iso_run eq_law33_models (xs:=[u,v,w]) (by simp only[mapO,e0,e1,e2]) (by simp[f_law33_models]) snb_models (by decide) hd ?_
 obtain ⟨xs,rfl,qx⟩:=hx
 obtain ⟨ys,rfl,qy⟩:=hy
 obtain ⟨zs,rfl,qz⟩:=hz
 obtain ⟨a1,a2,a3,a4,rfl,-⟩:=rp_draftM.1 qx
 have qy:=rp_bendM.1 qy
 have qz:=rp_bendM.1 qz
 subst qy;subst qz
 simp only[f_law33_models,f_law33_models_r,sx,sy,sf,SO.run,↓reduceIte,Nat.reduceEqDiff,Nat.reduceAdd,Nat.reduceLeDiff]
 refine sat_ex (model_ok (Nat.succ_pos d) (hx' _)) fun r1 hr1=>?_
 obtain ⟨m1,hm1,cs1,rfl,q1⟩:=hr1
 obtain ⟨b1,b2,rfl,b3,b4⟩:=rp_causal.1 q1
 have hm1':∀h,Agg m1 NoP 0 h (.agg [.int .i64 m1.grain,b1,b2]):=fun h=>⟨_,rfl,Rp.tree q1 (Nat.le_refl _)⟩
 have hb1:=(made_len hm1).2.2
 simp only[sx,sy,sf,SO.run,↓reduceIte,Nat.reduceEqDiff,Nat.reduceAdd,Nat.reduceLeDiff]
 refine sat_ex (bendOf_ok (Nat.succ_pos d) (hy' _) (hm1' _) hb1 (by omega)) fun r2 hr2=>?_
 simp only[sx,sy,sf,SO.run,↓reduceIte,Nat.reduceEqDiff,Nat.reduceAdd,Nat.reduceLeDiff]
 refine sat_ex (bendOf_ok (Nat.succ_pos d) (hy' _) (hm1' _) hb1 (by omega)) fun r3 hr3=>?_
 obtain ⟨m3,hm3,c3,rfl,q3⟩:=hr3
 have hm3':∀h,Agg m3 NoP 0 h (.agg c3):=fun h=>⟨_,rfl,Rp.tree q3 (Nat.le_refl _)⟩
 simp only[sx,sy,sf,SO.run,↓reduceIte,Nat.reduceEqDiff,Nat.reduceAdd,Nat.reduceLeDiff]
 refine sat_ex (bendOf_ok (Nat.succ_pos d) (hz' _) (hm3' _) hm3 (by omega)) fun r4 hr4=>?_
 obtain ⟨m2,hm2,c2,rfl,q2⟩:=hr2
 obtain ⟨m4,hm4,c4,rfl,q4⟩:=hr4
 obtain ⟨d1,d2,rfl,d3,d4⟩:=rp_causal.1 q2
 obtain ⟨f1,f2,rfl,f3,f4⟩:=rp_causal.1 q4
 simp only[sx,sy,sf,SO.run,↓reduceIte,Nat.reduceEqDiff,Nat.reduceAdd,Nat.reduceLeDiff,foot_ref33_Bend_Of]
 refine ⟨?_,?_⟩
 ·simp only[List.reverse_cons,List.reverse_nil,List.nil_append,List.cons_append]
  exact footsOk_mk [false,false,false,false,false,false,false,false,false,false,true] [] (by simp[All2,rdLook,noLook,bigLook]) (by decide) (by simp)
 ·refine ⟨NoP,m1,m2,m4,hb1.up (by omega),hm2.up (by omega),hm4.up (by omega),_,rfl,?_⟩
  exact ⟨_,_,rfl,Rp.tree q1 (Nat.le_refl _),_,_,rfl,Rp.tree q2 (Nat.le_refl _),Rp.tree q4 (Nat.le_refl _)⟩
end
end Hx
end
section
namespace Hx
open Go
noncomputable section
theorem works_call' (g:G):callV C0 1 N.law33_works [] g=.val (.bool true):=by kernel_rfl
theorem ofArgs_7 (a b c e p q r:AV)(t:T):ofArgs 0 [a,b,c,e,p,q,r] t=tset (tset (tset (tset (tset (tset (tset t 0 a) 1 b) 2 c) 3 e) 4 p) 5 q) 6 r:=rfl
theorem read_nil' (m:Causal):S.readE m []=if S.check m then 0 else 330:=by unfold S.readE;simp
def LM (w:AV)(hid kk:Int)(c9 v35:AV):List (Nat×AV):=[(3,w),(5,.int .i64 hid),(6,.int .u16 kk),(7,.hptr 0 0 0 0),(11,.hptr 3 0 0 0),(34,c9),(35,v35)]
theorem runs_model {m:Causal}{c1 c2 w c9 v35:AV}{hid kk:Int}{x:DraftM}{dcs:List AV}{raw:List Int}{vs:List UInt8}{Q:QT}(hm:∀h,Agg m NoP 0 h (.agg [.int .i64 m.grain,c1,c2]))(hx:∀h,Agg x NoP 0 h (.agg dcs))(hdl:dcs.length=5)
  (hw:SlR NoP 0 .nil raw w) (hraw:Raw w) (hvs:vs.length=5) (hb1:hid<9223372036854775808) (hk:0≤kk∧kk<65536) {t:T} {g:G} (ht:St t (LM w hid kk c9 v35))
  (hix:ixV true 3 3 c9 v35=.val (.agg [.int .i64 m.grain,c1,c2])) (g0:g.h.get 0=.cells 5 [dcs] 0 false false) (g3:g.h.get 3=.cells 5 [vs.map u8v] 0 false false) (hnx:4≤g.nx)
  (fin:∀t g',St t (LM w hid kk c9 v35)→Fr g g'→Q .norm t [] g') :
  wp C0 1 none (.seq (.ops [o 37 (.ix true 3 3 (.t 34) (.t 35)),o 16 (.alloc [.int .i64 0,.nils,.nils]),oz (.store 3 (.t 16) (.t 37))]) (.seq (.seq (.quiet [o 38 (.load true 3 (.t 16)),o 39 (.call N.twin_Check [.t 38]),o 40 (.load true 3 (.t 16)),o 41 (.call N.law33_refused [.t 40,.k (.nils)]),o 42 (.bin .neq (.t 39) (.t 41))]) (.cond (.t 42) (.seq (.ops [o 14 (.mv (.k (.bool false)))]) (.ret)) (.skip))) (.seq (.quiet [o 43 (.load true 5 (.t 7)),o 44 (.call N.ref33_Draft_Model [.t 43]),o 45 (.mv (.t 3)),o 46 (.load true 5 (.t 11)),o 47 (.call N.law33_lists [.t 44,.t 45,.t 46]),o 48 (.mv (.k (.int .i64 0)))]) (.blk 2 (.loop f_law33_TwinRuns_b6))))) Q t [] g:=by
 obtain ⟨h3,h5,h6,h7,h11,h34,h35,-⟩:=ht
 refine seq_cut (P:=fun t' df g'=>df=[]∧St t' (LR w hid kk g.nx c9 v35)∧g'=(g.new (.cells 3 [[.int .i64 0,.nils,.nils]] 0 false false)).put g.nx (.cells 3 [[.int .i64 m.grain,c1,c2]] 0 false false)) ?_ ?_
 ·simp only[sx,sy,sf,SO.run,↓reduceIte,Nat.reduceEqDiff,Nat.reduceAdd,Nat.reduceLeDiff,h34,h35,hix]
  simp[St,LR,sx,h3,h5,h6,h7,h11,h34,h35]
 clear h3 h5 h6 h7 h11 h34 h35
 rintro t df g1 ⟨rfl,ht,hg1⟩
 have k0:g1.h.get g.nx=.cells 3 [[.int .i64 m.grain,c1,c2]] 0 false false:=by rw[hg1];simp[H.get_put]
 have fr1:Fr g g1:=by rw[hg1];exact fr_of (by simp) fun i hi=>by simp[H.get_put,show ¬i=g.nx by omega]
 have n1:g.nx<g1.nx:=by rw[hg1];simp
 clear hg1
 refine cutG (P:=fun t' df g'=>df=[]∧St t' (LR w hid kk g.nx c9 v35)∧g'=g1) ?_ ?_
 ·refine cutG (P:=fun t' df g'=>df=[]∧St t' (LR w hid kk g.nx c9 v35)∧g'=g1∧tat t' 42=.bool false) ?_ ?_
  ·obtain ⟨h3,h5,h6,h7,h11,h34,h16,h35,-⟩:=ht
   have hrf:=fun g:G=>refused_ok (g:=g) (d:=1) (P:=NoP) (P2:=NoP) (k:=0) (k2:=0) (m:=m) (ls:=[]) (by decide) (hm _) (w:=.nils) ⟨by decide,rfl⟩
   have hck:=fun g:G=>check_ok (g:=g) (d:=1) (P:=NoP) (k:=0) (m:=m) (by decide) (hm _)
   simp only[sx,sy,sf,SO.run,↓reduceIte,Nat.reduceEqDiff,Nat.reduceAdd,Nat.reduceLeDiff,h16,k0,hrf,hck,read_nil']
   simp[St,LR,sx,h3,h5,h6,h7,h11,h34,h16,h35]
  rintro t df g' ⟨rfl,ht,rfl,h42⟩
  simp only[wp_cond,get_t,h42,wpC_bool,bifP_false,wp_skip]
  exact ⟨trivial,trivial,ht,trivial⟩
 clear ht
 rintro t df g2 ⟨rfl,ht,rfl⟩
 obtain ⟨rm,em,m0,hmade,cm,rfl,hcm⟩:=model_ok (g:=setLog g2 []) (d:=1) (by decide) (hx _)
 obtain ⟨hml,hmc,-⟩:=made_len hmade
 obtain ⟨rl,el,cl,rfl,hcl⟩:=lists_ok (g:=setLog g2 []) (d:=1) (P:=NoP) (k:=0) (m:=m0) (raw:=raw) (vs:=vs) (v:=.agg cm) (w:=w) (by decide) ⟨cm,rfl,Rp.tree hcm (Nat.le_refl _)⟩ hw hraw hvs (by omega) (fun x hx=>by rcases hmc x hx with h | h<;>omega)
 obtain ⟨cl1,cl2,rfl,hl1,hl2⟩:=rp_pair.1 hcl
 obtain ⟨l1,rfl,hq1⟩:=rp_list.1 hl1
 obtain ⟨l2,rfl,hq2⟩:=rp_list.1 hl2
 have g60:g2.h.get 0=.cells 5 [dcs] 0 false false:=by rw[fr1.2 0 (by omega),g0]
 have g63:g2.h.get 3=.cells 5 [vs.map u8v] 0 false false:=by rw[fr1.2 3 (by omega),g3]
 have ld0:hptrLoad (.cells 5 [dcs] 0 false false) 0 0 true 5 0=.val (.agg dcs):=by
  match dcs,hdl with
  | [a,b,c,d,e],_=>rfl
 have ld3:hptrLoad (.cells 5 [vs.map u8v] 0 false false) 0 0 true 5 0=.val (.agg (vs.map u8v)):=by
  match vs,hvs with
  | [a,b,c,d,e],_=>rfl
 refine cutG (P:=fun t' df g'=>df=[]∧St t' (LR w hid kk g.nx c9 v35)∧g'=g2∧tat t' 47=.agg [l1,l2]∧tat t' 48=.int .i64 0) ?_ ?_
 ·obtain ⟨h3,h5,h6,h7,h11,h34,h16,h35,-⟩:=ht
  simp only[sx,sy,sf,SO.run,↓reduceIte,Nat.reduceEqDiff,Nat.reduceAdd,Nat.reduceLeDiff,h3,h7,h11,g60,g63,ld0,ld3,em,el]
  simp[St,LR,sx,h3,h5,h6,h7,h11,h34,h16,h35]
 clear ht
 rintro t df g3 ⟨rfl,ht,rfl,h47,h48⟩
 simp only[wp_blk,wp_loop]
 refine runs_b6 hm hq1 hq2 hb1 hk n1 ht h47 h48 k0 fun t g4 ht fr2=>?_
 obtain ⟨h3,h5,h6,h7,h11,h34,h16,h35,-⟩:=ht
 simp only[kB_exit,if_true]
 exact fin t g4 ⟨h3,h5,h6,h7,h11,h34,h35,trivial⟩ (fr1.trans fr2)
theorem TwinRuns_call {x:DraftM}{y z:BendM}{u1 u2 u3 w:AV}{raw:List Int}{vs:List UInt8}{hid kk:Int}(hx:Agg x NoP 0 .nil u1)(hy:Agg y NoP 0 .nil u2)(hz:Agg z NoP 0 .nil u3)
  (hw:SlR NoP 0 .nil raw w) (hraw:Raw w) (hvs:vs.length=5) (hb1:hid<9223372036854775808) (hk:0≤kk∧kk<65536):∃g',(I C0).call 1 N.law33_TwinRuns [u1,u2,u3,w,.agg (vs.map u8v),.int .i64 hid,.int .u16 kk] G.empty=.ok (.bool true) g':=by
 obtain ⟨xs,rfl,qx⟩:=hx
 obtain ⟨ys,rfl,qy⟩:=hy
 obtain ⟨zs,rfl,qz⟩:=hz
 have hx':∀h,Agg x NoP 0 h (.agg xs):=fun h=>⟨_,rfl,Rp.tree qx (Nat.le_refl _)⟩
 have hy':∀h,Agg y NoP 0 h (.agg ys):=fun h=>⟨_,rfl,Rp.tree qy (Nat.le_refl _)⟩
 have hz':∀h,Agg z NoP 0 h (.agg zs):=fun h=>⟨_,rfl,Rp.tree qz (Nat.le_refl _)⟩
 obtain ⟨a1,a2,a3,a4,e1,-⟩:=rp_draftM.1 qx
 have hxl:xs.length=5:=by rw[e1];rfl
 have hyl:ys.length=4:=by rw[rp_bendM.1 qy];rfl
 have hzl:zs.length=4:=by rw[rp_bendM.1 qz];rfl
 clear e1 a1 a2 a3 a4
 have key:=call_ok (C:=C0) (d:=1) (f:=N.law33_TwinRuns) («as»:=[.agg xs,.agg ys,.agg zs,w,.agg (vs.map u8v),.int .i64 hid,.int .u16 kk]) (g:=G.empty) (K:=fun v g'=>v=.bool true) eq_law33_TwinRuns (by simp[f_law33_TwinRuns]) ?_
 ·cases hc:(I C0).call 1 N.law33_TwinRuns [.agg xs,.agg ys,.agg zs,w,.agg (vs.map u8v),.int .i64 hid,.int .u16 kk] G.empty with
  | fail=>rw[hc] at key;exact key.elim
  | ok v g'=>rw[hc] at key;exact ⟨g',by rw[show v=.bool true from key]⟩
 clear qx qy qz
 have vs5:(vs.map u8v).length=5:=by simpa using hvs
 simp only[f_law33_TwinRuns,ofArgs_7,sx,sy,sf,SO.run,↓reduceIte,Nat.reduceEqDiff,Nat.reduceAdd,Nat.reduceLeDiff]
 obtain ⟨g0,hg0⟩:∃g0,g0=(((G.empty.new (AObj.cells xs.length [xs] 0 false false)).new (AObj.cells ys.length [ys] 0 false false)).new (AObj.cells zs.length [zs] 0 false false)).new (AObj.cells (vs.map u8v).length [vs.map u8v] 0 false false):=⟨_,rfl⟩
 rw[←hg0]
 have f0:g0.h.get 0=.cells 5 [xs] 0 false false:=by rw[hg0,hxl];simp[sx,H.get_put]
 have f1:g0.h.get 1=.cells 4 [ys] 0 false false:=by rw[hg0,hyl];simp[sx,H.get_put]
 have f2:g0.h.get 2=.cells 4 [zs] 0 false false:=by rw[hg0,hzl];simp[sx,H.get_put]
 have f3:g0.h.get 3=.cells 5 [vs.map u8v] 0 false false:=by rw[hg0,vs5];simp[sx,H.get_put]
 have f4:g0.nx=4:=by rw[hg0];simp[sx]
 clear hg0
 have ld0:hptrLoad (.cells 5 [xs] 0 false false) 0 0 true 5 0=.val (.agg xs):=by
  match xs,hxl with
  | [a,b,c,d,e],_=>rfl
 have ld1:∀ws:List AV,ws.length=4→hptrLoad (.cells 4 [ws] 0 false false) 0 0 true 4 0=.val (.agg ws):=fun ws h=>by
  match ws,h with
  | [a,b,c,d],_=>rfl
 obtain ⟨r,er,m1,m2,m3,-,-,-,cs,rfl,hcs⟩:=models_ok (g:=g0) (d:=1) (by decide) (hx' _) (hy' _) (hz' _)
 obtain ⟨ca,cb,rfl,hca,hcb⟩:=rp_pair.1 hcs
 obtain ⟨cc,cd,rfl,hcc,hcd⟩:=rp_pair.1 hcb
 obtain ⟨p1,p2,rfl,-,-⟩:=rp_causal.1 hca
 obtain ⟨q1,q2,rfl,-,-⟩:=rp_causal.1 hcc
 obtain ⟨s1,s2,rfl,-,-⟩:=rp_causal.1 hcd
 have hA:∀h,Agg m1 NoP 0 h (.agg [.int .i64 m1.grain,p1,p2]):=fun h=>⟨_,rfl,Rp.tree hca (Nat.le_refl _)⟩
 have hB:∀h,Agg m2 NoP 0 h (.agg [.int .i64 m2.grain,q1,q2]):=fun h=>⟨_,rfl,Rp.tree hcc (Nat.le_refl _)⟩
 have hC:∀h,Agg m3 NoP 0 h (.agg [.int .i64 m3.grain,s1,s2]):=fun h=>⟨_,rfl,Rp.tree hcd (Nat.le_refl _)⟩
 clear hcs hcb hca hcc hcd
 obtain ⟨c9,hc9⟩:∃c,c=AV.agg ([AV.int .i64 m1.grain,p1,p2]++([AV.int .i64 m2.grain,q1,q2]++[AV.int .i64 m3.grain,s1,s2])):=⟨_,rfl⟩
 rw[←hc9] at er
 simp only[f_law33_TwinRuns_r]
 refine cutG (P:=fun t' df g'=>df=[]∧g'=g0∧St t' [(3,w),(5,.int .i64 hid),(6,.int .u16 kk),(7,.hptr 0 0 0 0),(8,.hptr 1 0 0 0),(9,.hptr 2 0 0 0),(11,.hptr 3 0 0 0)]) ?_ ?_
 ·simp only[sx,sy,sf,SO.run,↓reduceIte,Nat.reduceEqDiff,Nat.reduceAdd,Nat.reduceLeDiff,works_call',Bool.not_true]
  simp[St,sx]
 rintro t df g1 ⟨rfl,rfl,h3,h5,h6,h7,h8,h9,h11,-⟩
 rw[wp_seq]
 refine seq_cut (P:=fun t' df g'=>df=[]∧g'=g1∧St t' (LM w hid kk c9 (.int .i64 0))) ?_ ?_
 ·simp only[sx,sy,sf,SO.run,↓reduceIte,Nat.reduceEqDiff,Nat.reduceAdd,Nat.reduceLeDiff,h7,h8,h9,f0,f1,f2,ld0,ld1 _ hyl,ld1 _ hzl,er]
  simp[St,LM,sx,h3,h5,h6,h7,h11]
 clear h3 h5 h6 h7 h8 h9 h11
 rintro t df g2 ⟨rfl,rfl,h3,h5,h6,h7,h11,h34,h35,-⟩
 simp only[wp_blk,wp_loop,f_law33_TwinRuns_b8,f_law33_TwinRuns_k7]
 refine wpL_rangeK' (m:=3) rfl (by omega) (fun j t df g=>df=[]∧St t [(3,w),(5,.int .i64 hid),(6,.int .u16 kk),(7,.hptr 0 0 0 0),(11,.hptr 3 0 0 0),(34,c9)]∧g.h.get 0=.cells 5 [xs] 0 false false∧g.h.get 3=.cells 5 [vs.map u8v] 0 false false∧4≤g.nx)
  ⟨rfl,⟨h3,h5,h6,h7,h11,h34,trivial⟩,f0,f3,by omega⟩ h35 (by decide) (by rintro j t df g v s (rfl | rfl | rfl)<;>simp[St,sx]) ?_ ?_
 ·clear h3 h5 h6 h7 h11 h34 h35 er
  rintro j t df g hj ⟨rfl,⟨h3,h5,h6,h7,h11,h34,-⟩,e0,e3,hn⟩ h35
  have fin:∀t g',St t (LM w hid kk c9 (.int .i64 (j:Int)))→Fr g g' →
    (([]:List ADf)=[]∧St t [(3,w),(5,.int .i64 hid),(6,.int .u16 kk),(7,.hptr 0 0 0 0),(11,.hptr 3 0 0 0),(34,c9)]∧g'.h.get 0=.cells 5 [xs] 0 false false∧g'.h.get 3=.cells 5 [vs.map u8v] 0 false false∧4≤g'.nx)∧tat t 35=.int .i64 (j:Int):=fun t g' ht a8=>by
   obtain ⟨h3,h5,h6,h7,h11,h34,h35,-⟩:=ht
   exact ⟨⟨rfl,⟨h3,h5,h6,h7,h11,h34,trivial⟩,by rw[a8.2 0 (by omega),e0],by rw[a8.2 3 (by omega),e3],Nat.le_trans hn a8.1⟩,h35⟩
  have hj3:j=0∨j=1∨j=2:=by omega
  rcases hj3 with rfl | rfl | rfl
  ·exact runs_model hA hx' hxl hw hraw hvs hb1 hk ⟨h3,h5,h6,h7,h11,h34,h35,trivial⟩ (by rw[hc9];rfl) e0 e3 hn fin
  ·exact runs_model hB hx' hxl hw hraw hvs hb1 hk ⟨h3,h5,h6,h7,h11,h34,h35,trivial⟩ (by rw[hc9];rfl) e0 e3 hn fin
  ·exact runs_model hC hx' hxl hw hraw hvs hb1 hk ⟨h3,h5,h6,h7,h11,h34,h35,trivial⟩ (by rw[hc9];rfl) e0 e3 hn fin
 ·rintro t df g ⟨rfl,-,-⟩
  simp only[f_law33_TwinRuns_k9,sx,sy,sf,SO.run,↓reduceIte,Nat.reduceEqDiff,Nat.reduceAdd,Nat.reduceLeDiff]
end
end Hx
end
section
namespace Hx
open Go Go.RowKit Go.ChangeShapes Go.WideShapes
def contig (P:Program):List Field→Nat→Option Nat
 | [],k=>some k
 | f::fs,k=>if f.offset=k then contig P fs (k+P.cellsOf f.type) else none
def plainT (P:Program):Nat→TypeId→Bool
 | 0,_=>false
 | n+1,t=>match P.underlying t with
  | some .bool=>true
  | some (.int _)=>true
  | some (.slice e)=>decide (0<P.cellsOf e)&&plainT P n e
  | some (.struct fs)=>(contig P fs.toList 0 == some (P.cellsOf t))&&fs.toList.all (fun f=>plainT P n f.type)
  | some (.array m e)=>decide (m*P.cellsOf e=P.cellsOf t)&&plainT P n e
  | _=>false
def Sh (P:Program):Nat→TypeId→List AV→Prop
 | 0,_,_=>False
 | n+1,t,xs=>match P.underlying t with
  | some .bool=>∃b,xs=[.bool b]
  | some (.int k)=>∃z,xs=[.int k z]∧(Lit.int k z).wf=true
  | some (.slice e)=>xs=[.nils]∨∃rows,xs=[.tsl 0 (P.cellsOf e) rows]∧rows.length<9223372036854775808∧∀row∈rows,Sh P n e row
  | some (.struct fs)=>∃xss,xs=xss.flatten∧All2 (fun (f:Field) ys=>Sh P n f.type ys) fs.toList xss
  | some (.array m e)=>∃xss:List (List AV),xs=xss.flatten∧xss.length=m∧∀ys∈xss,Sh P n e ys
  | _=>False
def GoodC (P:Program)(w:World)(n:Nat)(t:TypeId)(xs:List AV)(cs:List Value):Prop :=
 RVs0 w xs cs∧(∀y∈xs,y.one=true∧Closed y)∧Sh P n t xs
theorem RVs0.append {w:World}{xs ys:List AV}{cs ds:List Value}(h:RVs0 w xs cs)(h':RVs0 w ys ds):RVs0 w (xs++ys) (cs++ds):=by
 refine ⟨by rw[List.length_append,List.length_append,h.1,h'.1],fun i x v hx hv=>?_⟩
 rcases Nat.lt_or_ge i xs.length with hi | hi
 ·rw[List.getElem?_append_left hi] at hx
  rw[List.getElem?_append_left (by rw[←h.1];exact hi)] at hv
  exact h.2 i x v hx hv
 ·rw[List.getElem?_append_right hi] at hx
  rw[List.getElem?_append_right (by rw[←h.1];exact hi),←h.1] at hv
  exact h'.2 _ x v hx hv
theorem add_adr (b o n:Nat):(⟨b,o,none⟩:Addr).add n=adr b (o+n):=by
 unfold Addr.add
 split
 ·rename_i h;subst h;rfl
 ·rfl
variable {H:Type}{enc:TypeId×Value→H}{P:Program}{w:World}
theorem contig_le:∀{fl:List Field}{k K:Nat},contig P fl k=some K→k≤K
 | [],k,K,h=>by injection h with h;omega
 | f::fl,k,K,h=>by
  unfold contig at h
  split at h
  ·have:=contig_le h;omega
  ·cases h
theorem pieces {n:Nat}{cs:List Value}:∀{fl:List Field}{k K:Nat},contig P fl k=some K →
  (∀f∈fl,∃xs,GoodC P w n f.type xs ((cs.drop f.offset).take (P.cellsOf f.type))) →
  ∃xss,All2 (fun (f:Field) ys=>Sh P n f.type ys) fl xss∧RVs0 w xss.flatten ((cs.drop k).take (K - k))∧∀y∈xss.flatten,y.one=true∧Closed y
 | [],k,K,h,_=>by
  injection h with h;subst h
  exact ⟨[],trivial,by rw[Nat.sub_self,List.take_zero];exact ⟨rfl,fun i x v hx=>by simp at hx⟩,fun y hy=>by simp at hy⟩
 | f::fl,k,K,h,hg=>by
  unfold contig at h
  split at h
  ·rename_i ho
   subst ho
   obtain ⟨xs,h1,h2,h3⟩:=hg f (by simp)
   obtain ⟨xss,a1,a2,a3⟩:=pieces h fun f' hf'=>hg f' (by simp[hf'])
   have hle:=contig_le h
   refine ⟨xs::xss,⟨h3,a1⟩,?_,fun y hy=>?_⟩
   ·have e:(cs.drop f.offset).take (K - f.offset)=(cs.drop f.offset).take (P.cellsOf f.type)++(cs.drop (f.offset+P.cellsOf f.type)).take (K - (f.offset+P.cellsOf f.type)):=by
     rw[show K - f.offset=P.cellsOf f.type+(K - (f.offset+P.cellsOf f.type)) by omega,List.take_add,List.drop_drop]
    rw[e,List.flatten_cons]
    exact h1.append a2
   ·rw[List.flatten_cons,List.mem_append] at hy
    rcases hy with hy | hy
    ·exact h2 y hy
    ·exact a3 y hy
  ·cases h
theorem apieces {n:Nat}{e:TypeId}{cs:List Value}:∀{m k:Nat},
  (∀i,i<m→∃xs,GoodC P w n e xs ((cs.drop ((k+i)*P.cellsOf e)).take (P.cellsOf e))) →
  ∃xss:List (List AV),xss.length=m∧(∀ys∈xss,Sh P n e ys)∧RVs0 w xss.flatten ((cs.drop (k*P.cellsOf e)).take (m*P.cellsOf e))∧∀y∈xss.flatten,y.one=true∧Closed y
 | 0,k,_=>⟨[],rfl,fun y hy=>by simp at hy,by rw[Nat.zero_mul,List.take_zero];exact ⟨rfl,fun i x v hx=>by simp at hx⟩,fun y hy=>by simp at hy⟩
 | m+1,k,hg=>by
  obtain ⟨xs,h1,h2,h3⟩:=hg 0 (by omega)
  rw[Nat.add_zero] at h1
  obtain ⟨xss,a0,a1,a2,a3⟩:=apieces (m:=m) (k:=k+1) fun i hi=>by
   have:=hg (i+1) (by omega)
   rwa [show k+(i+1)=k+1+i by omega] at this
  refine ⟨xs::xss,by simp[a0],fun ys hy=>?_,?_,fun y hy=>?_⟩
  ·rcases List.mem_cons.1 hy with rfl | hy
   ·exact h3
   ·exact a1 ys hy
  ·have e:(cs.drop (k*P.cellsOf e)).take ((m+1)*P.cellsOf e)=(cs.drop (k*P.cellsOf e)).take (P.cellsOf e)++(cs.drop ((k+1)*P.cellsOf e)).take (m*P.cellsOf e):=by
    rw[show (m+1)*P.cellsOf e=P.cellsOf e+m*P.cellsOf e by rw[Nat.add_mul];omega,List.take_add,List.drop_drop,Nat.add_mul,Nat.one_mul]
   rw[e,List.flatten_cons]
   exact h1.append a2
  ·rw[List.flatten_cons,List.mem_append] at hy
   rcases hy with hy | hy
   ·exact h2 y hy
   ·exact a3 y hy
theorem in_cells:∀(n:Nat)(t:TypeId),plainT P n t=true→∀(fuel:Nat)(cs:List Value)(x:DataW H×List MemPlace),DataW.trod enc P w 0 (fun _=>true) true fuel t cs=some x→∃xs,GoodC P w n t xs cs:=by
 intro n
 induction n with
 | zero=>intro t h;simp[plainT] at h
 | succ n ih =>
  intro t h fuel cs x hx
  unfold plainT at h
  split at h
  ·rename_i hu
   obtain ⟨b,rfl,-⟩:=DataW.trod_bool hu hx
   refine ⟨[.bool b],⟨rfl,fun i x v h1 h2=>?_⟩,fun y hy=>?_,?_⟩
   ·cases i with
    | zero=>simp at h1 h2;subst h1;subst h2;exact .bool _ _
    | succ i=>simp at h1
   ·simp at hy;subst hy;exact ⟨rfl,.bool _⟩
   ·unfold Sh;rw[hu];exact ⟨b,rfl⟩
  ·rename_i k hu
   obtain ⟨z,rfl,-,hwf⟩:=DataW.trod_int hu hx
   refine ⟨[.int k z],⟨rfl,fun i x v h1 h2=>?_⟩,fun y hy=>?_,?_⟩
   ·cases i with
    | zero=>simp at h1 h2;subst h1;subst h2;exact .int _ _ _
    | succ i=>simp at h1
   ·simp at hy;subst hy;exact ⟨rfl,.int _ _⟩
   ·unfold Sh;rw[hu];exact ⟨z,rfl,hwf⟩
  ·rename_i e hu
   rw[Bool.and_eq_true,decide_eq_true_eq] at h
   obtain ⟨hpos,hp⟩:=h
   rcases DataW.trod_slice hu hx with ⟨rfl,-⟩ | ⟨a,len,cap,elems,rest,m,-,rfl,-,-,hlc,hcm,hlen,hel,-,-⟩
   ·refine ⟨[.nils],⟨rfl,fun i x v h1 h2=>?_⟩,fun y hy=>?_,?_⟩
    ·cases i with
     | zero=>simp at h1 h2;subst h1;subst h2;exact .nils _
     | succ i=>simp at h1
    ·simp at hy;subst hy;exact ⟨rfl,.nils⟩
    ·unfold Sh;rw[hu];exact .inl rfl
   ·have each:∀i,i<len→∃xs vs,w.cells? 0 (a.add (i*P.cellsOf e)) (P.cellsOf e)=some vs∧GoodC P w n e xs vs:=by
     intro i hi
     have:=hel i hi
     rw[List.getElem?_eq_getElem (show i<elems.length by omega),Option.bind_eq_some_iff] at this
     obtain ⟨vs,h1,h2⟩:=this
     obtain ⟨xs,hg⟩:=ih e hp _ _ _ h2
     exact ⟨xs,vs,h1,hg⟩
    let rowf:Nat→List AV:=fun i=>if hi:i<len then Classical.choose (each i hi) else []
    let valf:Nat→List Value:=fun i=>if hi:i<len then Classical.choose (Classical.choose_spec (each i hi)) else []
    have hrow:∀i,i<len→w.cells? 0 (a.add (i*P.cellsOf e)) (P.cellsOf e)=some (valf i)∧GoodC P w n e (rowf i) (valf i):=by
     intro i hi
     have:=Classical.choose_spec (Classical.choose_spec (each i hi))
     simpa only[rowf,valf,dif_pos hi] using this
    have hget:∀(i:Nat) (row:List AV),((List.range len).map rowf)[i]?=some row→i<len∧row=rowf i:=by
     intro i row h1
     rw[List.getElem?_map] at h1
     rcases Nat.lt_or_ge i len with hi | hi
     ·rw[List.getElem?_range hi] at h1
      injection h1 with h1
      exact ⟨hi,h1.symm⟩
     ·rw[List.getElem?_eq_none (by simpa using hi)] at h1;cases h1
    refine ⟨[.tsl 0 (P.cellsOf e) ((List.range len).map rowf)],⟨rfl,fun i x v h1 h2=>?_⟩,fun y hy=>?_,?_⟩
    ·cases i with
     | succ i=>simp at h1
     | zero =>
      simp at h1 h2;subst h1;subst h2
      rcases Nat.eq_zero_or_pos len with h0 | h0
      ·subst h0
       exact .tnil 0 0 _ a cap (Nat.le_refl _)
      ·obtain ⟨b,o,spot⟩:=a
       have hc0:=World.cells?_some (hrow 0 h0).1
       have hv0:(valf 0)[0]?=some (valf 0)[0]:=List.getElem?_eq_getElem (by rw[hc0.2.1];exact hpos)
       have h00:=hc0.2.2 0 hpos
       rw[hv0] at h00
       have hspot:spot=none:=by simpa [Addr.add] using World.cell?_spot h00
       subst hspot
       have cellat:∀i j row x,((List.range len).map rowf)[i]?=some row→row[j]?=some x→∃v,(valf i)[j]?=some v∧w.cell? (adr b (o+i*P.cellsOf e+j))=some v∧RV w gm0 av0 0 x v:=by
        intro i j row x hr hxj
        obtain ⟨hi,rfl⟩:=hget i row hr
        obtain ⟨q1,q2⟩:=hrow i hi
        have hj:j<(rowf i).length:=(List.getElem?_eq_some_iff.1 hxj).1
        have hj':j<(valf i).length:=by rw[←q2.1.1];exact hj
        have hcs:=World.cells?_some q1
        have hcell:=hcs.2.2 j (by rw[←hcs.2.1];exact hj')
        rw[List.getElem?_eq_getElem hj'] at hcell
        refine ⟨_,List.getElem?_eq_getElem hj',?_,q2.1.2 j x _ hxj (List.getElem?_eq_getElem hj')⟩
        rw[add_adr,show adr b (o+i*P.cellsOf e)=(⟨b,o+i*P.cellsOf e,none⟩:Addr) from rfl,add_adr] at hcell
        exact hcell
       have hb:b<w.heap.size:=by
        have:=lt_of_cell h00
        simpa [Addr.add] using this
       have hrl:((List.range len).map rowf).length=len:=by simp
       have key:=RV.tsl (w:=w) (γ:=gm0) (A:=av0) 0 0 (P.cellsOf e) ((List.range len).map rowf) b o cap (fun i j=>(valf i)[j]?.getD undef) (Nat.le_refl _) (by rw[hrl];exact hlc) hb (mut0 b) (fun h=>h)
        (fun i row hr=>by
         obtain ⟨hi,rfl⟩:=hget i row hr
         obtain ⟨q1,q2⟩:=hrow i hi
         rw[q2.1.1,(World.cells?_some q1).2.1])
        (fun i j row x hr hxj=>by
         obtain ⟨hi,rfl⟩:=hget i row hr
         exact ((hrow i hi).2.2.1 x (List.mem_of_getElem? hxj)).1)
        (fun i j row x hr hxj=>by
         obtain ⟨v,v1,v2,v3⟩:=cellat i j row x hr hxj
         rw[v2,v1];rfl)
        (fun i j row x hr hxj=>by
         obtain ⟨v,v1,v2,v3⟩:=cellat i j row x hr hxj
         rw[v1];exact v3)
        (fun row hr x hx=>by
         obtain ⟨i,hi⟩:=List.getElem?_of_mem hr
         obtain ⟨hi2,rfl⟩:=hget i row hi
         exact ((hrow i hi2).2.2.1 x hx).2)
       rw[hrl] at key
       exact key
    ·simp only[List.mem_singleton] at hy;subst hy
     refine ⟨rfl,.tsl _ _ _ fun row hr x hx=>?_⟩
     obtain ⟨i,hi⟩:=List.getElem?_of_mem hr
     obtain ⟨hi2,rfl⟩:=hget i row hi
     exact ((hrow i hi2).2.2.1 x hx).2
    ·unfold Sh;rw[hu]
     refine .inr ⟨_,rfl,?_,fun row hr=>?_⟩
     ·rw[List.length_map,List.length_range]
      have:maxLen<9223372036854775808:=by decide
      omega
     ·obtain ⟨i,hi⟩:=List.getElem?_of_mem hr
      obtain ⟨hi2,rfl⟩:=hget i row hi
      exact (hrow i hi2).2.2.2
  ·rename_i fs hu
   rw[Bool.and_eq_true] at h
   obtain ⟨hc,hp⟩:=h
   have hc:contig P fs.toList 0=some (P.cellsOf t):=eq_of_beq hc
   obtain ⟨ys,m,-,-,hl,hyl,hel⟩:=DataW.trod_struct hu hx
   obtain ⟨xss,a1,a2,a3⟩:=pieces (w:=w) (n:=n) (cs:=cs) hc fun f hf=>by
    obtain ⟨i,hi,e⟩:=List.mem_iff_getElem.1 hf
    have hfi:fs[i]?=some f:=by rw[←Array.getElem?_toList,List.getElem?_eq_getElem hi,e]
    have:=hel i f hfi
    rw[List.getElem?_eq_getElem (show i<ys.length by rw[hyl];simpa using hi)] at this
    exact ih f.type (List.all_eq_true.1 hp f hf) _ _ _ this
   rw[List.drop_zero,Nat.sub_zero,←hl,List.take_length] at a2
   refine ⟨xss.flatten,a2,a3,?_⟩
   unfold Sh;rw[hu];exact ⟨xss,rfl,a1⟩
  ·rename_i m e hu
   rw[Bool.and_eq_true,decide_eq_true_eq] at h
   obtain ⟨hc,hp⟩:=h
   obtain ⟨ys,q,-,-,hl,hyl,hel⟩:=DataW.trod_array hu hx
   obtain ⟨xss,a0,a1,a2,a3⟩:=apieces (w:=w) (n:=n) (e:=e) (cs:=cs) (m:=m) (k:=0) fun i hi=>by
    have:=hel i hi
    rw[List.getElem?_eq_getElem (show i<ys.length by omega)] at this
    rw[Nat.zero_add]
    exact ih e hp _ _ _ this
   rw[Nat.zero_mul,List.drop_zero,hc,←hl,List.take_length] at a2
   refine ⟨xss.flatten,a2,a3,?_⟩
   unfold Sh;rw[hu];exact ⟨xss,rfl,a0,a1⟩
  ·cases h
theorem sh_int {n:Nat}{t:TypeId}{xs:List AV}(hu:P.underlying t=some (.int .i64))(h:Sh P n t xs):∃x:Int,Rp.rp NoP 0 .nil x xs:=by
 cases n with
 | zero=>exact h.elim
 | succ n =>
  unfold Sh at h;rw[hu] at h
  obtain ⟨z,rfl,-⟩:=h
  exact ⟨z,rp_int.2 rfl⟩
theorem sh_u8 {n:Nat}{t:TypeId}{xs:List AV}(hu:P.underlying t=some (.int .u8))(h:Sh P n t xs):∃x:UInt8,Rp.rp NoP 0 .nil x xs:=by
 cases n with
 | zero=>exact h.elim
 | succ n =>
  unfold Sh at h;rw[hu] at h
  obtain ⟨z,rfl,hw⟩:=h
  simp only[Lit.wf,IntKind.min,IntKind.max,IntKind.signed,IntKind.bits,Bool.and_eq_true,decide_eq_true_eq] at hw
  refine ⟨UInt8.ofNat z.toNat,rp_u8.2 ?_⟩
  have h1:0≤z:=by simpa using hw.1
  have h2:z≤255:=by simpa using hw.2
  have h3:(UInt8.ofNat z.toNat).toNat=z.toNat:=UInt8.toNat_ofNat_of_lt' (by show z.toNat<256;omega)
  rw[h3,Int.toNat_of_nonneg h1]
theorem sh_list {α:Type} [Rp α]{n:Nat}{t e:TypeId}{xs:List AV}(hu:P.underlying t=some (.slice e))(hsz:P.cellsOf e=Rp.sz α)(hel:∀ys,Sh P n e ys→∃y:α,Rp.rp NoP 0 .nil y ys)(h:Sh P (n+1) t xs) :
  ∃l:List α,Rp.rp NoP 0 .nil l xs:=by
 unfold Sh at h;rw[hu] at h
 rcases h with rfl | ⟨rows,rfl,hl,hr⟩
 ·exact ⟨[],.nils,rfl,by simp,rfl⟩
 ·have:∀rows:List (List AV),(∀row∈rows,Sh P n e row)→∃l:List α,All2 (Rp.rp NoP 0 .nil) l rows:=by
   intro rows
   induction rows with
   | nil=>intro _;exact ⟨[],trivial⟩
   | cons r rows ih =>
    intro h
    obtain ⟨y,hy⟩:=hel r (h r (by simp))
    obtain ⟨l,hl⟩:=ih fun row hrow=>h row (by simp[hrow])
    exact ⟨y::l,hy,hl⟩
  obtain ⟨l,ha⟩:=this rows hr
  exact ⟨l,_,rfl,by rw[ha.len];exact hl,Nat.le_refl _,.inl hsz,ha⟩
theorem sh_array {n m:Nat}{t e:TypeId}{xs:List AV}(hu:P.underlying t=some (.array m e))(h:Sh P (n+1) t xs):∃xss:List (List AV),xs=xss.flatten∧xss.length=m∧∀ys∈xss,Sh P n e ys:=by
 unfold Sh at h;rw[hu] at h;exact h
theorem sh_struct {n:Nat}{t:TypeId}{fs:Array Field}{xs:List AV}(hu:P.underlying t=some (.struct fs))(h:Sh P (n+1) t xs):∃xss,xs=xss.flatten∧All2 (fun (f:Field) ys=>Sh P n f.type ys) fs.toList xss:=by
 unfold Sh at h;rw[hu] at h;exact h
end Hx
end
