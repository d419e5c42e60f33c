/- A part of the proof: an interpreter over abstract values, shown right against the model, and what the functions of the chapter compute on it. -/
import Derived.Test.YtaebcalnodgpnaaHx13
set_option linter.unusedVariables false
set_option linter.unusedSimpArgs false
set_option linter.unnecessarySimpa false
section
namespace Hx
open Go
noncomputable section
def BendV (K:Nat):VS:=fun P k h v=>∃m,Bnd K m∧Agg m P k h v
theorem snb_bend (K:Nat):Snb (BendV K) 1:=by
 refine ⟨fun {P k h v n} d r hn=>?_,fun {k h v n} r hn=>?_⟩
 ·obtain ⟨m,hm,r⟩:=r
  obtain ⟨v',e,r'⟩:=(snb_agg m).snap d r hn
  exact ⟨v',e,m,hm,r'⟩
 ·obtain ⟨m,hm,r⟩:=r
  exact (snb_agg m).tag r hn
theorem nilc_rptr {sz:Nat}{v:AV}{i off:Nat}(h:rowy v=true):nilcV (rptr sz v i off)=.val (rptr sz v i off):=by
 cases v<;>first | rfl | cases h
abbrev P3:Nat→Prop:=fun i=>3≤i
theorem bk2 {d K:Nat}{t:T}{g:G}{gr:Int}{rv nv:AV}{rts:List (List Int)}{nds:List Mech}(h3:tat t 3=.hptr 1 0 0 0)(h4:tat t 4=.hptr 2 0 0 0)(e1:g.h.get 1=.cells 3 [[.int .i64 gr,rv,nv]] 0 false false)(e2:g.h.get 2=.cells 3 [[.int .i64 0,.nils,.nils]] 0 false false)
  (hr:SlR P3 0 g.h rts rv) (hn:SlR P3 0 g.h nds nv) (hb:Bnd K ⟨gr,rts,nds⟩):wp C0 d none f_ref33_Bend_Of_k2 (fnQ C0 d [SR.cell true 3 4] fun v g'=>∃P,BendV K P 0 g'.h v) t [] g:=by
 simp only[f_ref33_Bend_Of_k2,sx,sy,SO.run,↓reduceIte,Nat.reduceEqDiff,Nat.reduceAdd,Nat.reduceLeDiff,h3,h4,e1,e2]
 refine ⟨P3,_,hb,_,rfl,?_⟩
 exact Rp.mono (P:=P3) (h:=g.h) (rp_causal.2 ⟨rv,nv,rfl,hr,hn⟩) (fun i hi=>⟨hi,by rw[get_put_ne _ _ _ (by have:3≤i:=hi;omega)]⟩) (Nat.le_refl _)
theorem BD.sl {K R n:Nat}{g:G}{V:Ky→AV}{E:Ky→En}{Rt:Nat→List Int}{c:Nat→Int}{F:Nat→Nat→List Int}(hD:BD K R n V E Rt c F)(hH:Hp g 3 (LB R n) V E)(hK:K≤2000000)(hR:R≤K)(hn:n≤K) :
  SlR P3 0 g.h ((List.range R).map Rt) (V (4,0))∧SlR P3 0 g.h ((List.range n).map fun i=>(⟨c i,F 1 i,F 2 i,F 3 i⟩:Mech)) (V (4,1))∧∀gr,Bnd K ⟨gr,(List.range R).map Rt,(List.range n).map fun i=>(⟨c i,F 1 i,F 2 i,F 3 i⟩:Mech)⟩:=by
 have p3:∀{k:Ky} {sz:Nat} {rows:List (List AV)},Own g 3 (V k) sz rows→∀i,vid (V k)=some i→P3 i:=fun h i hi=>(h.lt hi).1
 have sl1:∀{k:Ky} {l:List Int},Own g 3 (V k) 1 (l.map ci)→l.length≤K→SlR P3 0 g.h l (V k):=fun h hl=>Own.sl (α:=Int) h (by omega) (All2.of_map (fun a=>rp_int.2 rfl) _) (p3 h)
 refine ⟨?_,?_,fun gr=>⟨by simpa using hR,fun x hx=>?_,by simpa using hn,fun x hx=>?_⟩⟩
 ·have:=hH.own (k:=(4,0)) (by simp[LB]) hD.rs
  refine Own.sl (α:=List Int) this (by simp;omega) (all2_maps fun i hi=>?_) (p3 this)
  have hi:=List.mem_range.1 hi
  obtain ⟨q1,q2⟩:=hD.r i hi
  exact ⟨_,rfl,sl1 (hH.own (k:=(0,i)) (.inl ⟨rfl,hi⟩) q1) q2⟩
 ·have:=hH.own (k:=(4,1)) (by simp[LB]) hD.ns
  refine Own.sl (α:=Mech) this (by simp;omega) (all2_maps fun i hi=>?_) (p3 this)
  have hi:=List.mem_range.1 hi
  obtain ⟨q1,q2⟩:=hD.f 1 i (by omega) (by omega) hi
  obtain ⟨q3,q4⟩:=hD.f 2 i (by omega) (by omega) hi
  obtain ⟨q5,q6⟩:=hD.f 3 i (by omega) (by omega) hi
  exact rp_mech.2 ⟨_,_,_,rfl,sl1 (hH.own (k:=(1,i)) (.inr (.inl ⟨by simp,by simp,hi⟩)) q1) q2,sl1 (hH.own (k:=(2,i)) (.inr (.inl ⟨by simp,by simp,hi⟩)) q3) q4,sl1 (hH.own (k:=(3,i)) (.inr (.inl ⟨by simp,by simp,hi⟩)) q5) q6⟩
 ·obtain ⟨i,hi,rfl⟩:=List.mem_map.1 hx
  exact (hD.r i (List.mem_range.1 hi)).2
 ·obtain ⟨i,hi,rfl⟩:=List.mem_map.1 hx
  have hi:=List.mem_range.1 hi
  exact ⟨(hD.f 1 i (by omega) (by omega) hi).2,(hD.f 2 i (by omega) (by omega) hi).2,(hD.f 3 i (by omega) (by omega) hi).2⟩
theorem BD.up {K K' R n:Nat}{V:Ky→AV}{E:Ky→En}{Rt:Nat→List Int}{c:Nat→Int}{F:Nat→Nat→List Int}(h:BD K R n V E Rt c F)(hK:K≤K'):BD K' R n V E Rt c F :=
 ⟨fun i hi=>⟨(h.r i hi).1,by have:=(h.r i hi).2;omega⟩,fun q i a b hi=>⟨(h.f q i a b hi).1,by have:=(h.f q i a b hi).2;omega⟩,h.rs,h.ns⟩
theorem mapset {α:Type}{n J:Nat}{f h:Nat→α}{y:α}(he:∀i,h i=if i=J then y else f i):((List.range n).map f).set J y=(List.range n).map h:=by
 apply List.ext_getElem?
 intro i
 by_cases e:J=i
 ·subst e
  by_cases hj:J<n
  ·rw[List.getElem?_set_self (by simpa using hj)];simp[hj,he]
  ·rw[List.getElem?_eq_none (by simp;omega),List.getElem?_eq_none (by simp;omega)]
 ·rw[List.getElem?_set_ne e]
  by_cases hi:i<n
  ·simp[hi,he,Ne.symm e]
  ·rw[List.getElem?_eq_none (by simp;omega),List.getElem?_eq_none (by simp;omega)]
theorem SlR.far {α:Type} [Rp α]{P:Nat→Prop}{k:Nat}{h h':H}{l:List α}{v:AV}(r:SlR P k h l v)(hf:∀i,P i→h'.get i=h.get i):SlR P k h' l v:=by
 obtain ⟨w,hw,q⟩:=Rp.mono (P':=P) (h':=h') (show Rp.rp P k h l [v] from ⟨v,rfl,r⟩) (fun i hi=>⟨hi,hf i hi⟩) (Nat.le_refl _)
 injection hw with hw;subst hw;exact q
theorem SlR.heap {α:Type} [Rp α]{P:Nat→Prop}{k:Nat}{h h':H}{l:List α}{v:AV}(r:SlR P k h l v)(hf:h'=h):SlR P k h' l v:=by subst hf;exact r
theorem bend0 {d K:Nat}{x:BendM}{gr:Int}{R n J:Nat}{Rt:Nat→List Int}{c:Nat→Int}{F:Nat→Nat→List Int}(hK:K≤1000000)(hR:R≤K)(hn:n≤K)(hJ:J<n){t:T}{g':G}{V:Ky→AV}{E:Ky→En}{Qk:QT}
  (h2:tat t 2=.hptr 0 0 0 0) (h3:tat t 3=.hptr 1 0 0 0) (h4:tat t 4=.hptr 2 0 0 0) (h5:tat t 5=V (4,0)) (h8:tat t 8=V (4,1)) (h11:tat t 11=rptr 4 (V (4,1)) J 0) (hH:Hp g' 3 (LB R n) V E)
  (f0:g'.h.get 0=.cells 4 [[u8v x.1,u8v x.2.1,u8v x.2.2.1,.int .i64 x.2.2.2]] 0 false false) (f1:g'.h.get 1=.cells 3 [[.int .i64 gr,V (4,0),V (4,1)]] 0 false false) (f2:g'.h.get 2=.cells 3 [[.int .i64 0,.nils,.nils]] 0 false false) (hD:BD K R n V E Rt c F)
  (fin:∀t g gr rv nv rts nds,tat t 3=.hptr 1 0 0 0→tat t 4=.hptr 2 0 0 0→g.h.get 1=.cells 3 [[.int .i64 gr,rv,nv]] 0 false false→g.h.get 2=.cells 3 [[.int .i64 0,.nils,.nils]] 0 false false→SlR P3 0 g.h rts rv→SlR P3 0 g.h nds nv→Bnd (K+1) ⟨gr,rts,nds⟩→Qk .norm t [] g) :
  wp C0 d none (.ops [o 105 (.fad 3 (.t 2)),o 106 (.load false 1 (.t 105)),o 107 (.fad 0 (.t 3)),oz (.store 1 (.t 107) (.t 106))]) Qk t [] g':=by
 have o0:=hH.own (k:=(4,0)) (by simp[LB]) hD.rs
 have o1:=hH.own (k:=(4,1)) (by simp[LB]) hD.ns
 have hDu:=hD.up (show K≤K+1 by omega)
 have hn0:0<n:=by omega
 have ry1:rowy (V (4,1))=true:=rowy_of o1.rows (i:=0) (by simpa using hn0)
 have lrow:((List.range n).map fun i=>[AV.int .i64 (c i),V (1,i),V (2,i),V (3,i)]).length=n:=by simp
 have hrowJ:((List.range n).map fun i=>[AV.int .i64 (c i),V (1,i),V (2,i),V (3,i)])[J]?=some [AV.int .i64 (c J),V (1,J),V (2,J),V (3,J)]:=by simp[hJ]
 have hnx:=hH.nx
 obtain ⟨s1,s2,s3⟩:=hDu.sl hH (by omega) (by omega) (by omega)
 simp only[sx,sy,SO.run,↓reduceIte,Nat.reduceEqDiff,Nat.reduceAdd,Nat.reduceLeDiff,h2,h3,f0,f1]
 exact fin _ _ x.2.2.2 _ _ _ _ (by simp[sx,h3]) (by simp[sx,h4]) (by simp[H.get_put]) (by simp[H.get_put,f2]) (s1.far fun i hi=>by simp[H.get_put];intro e;have:3≤i:=hi;omega) (s2.far fun i hi=>by simp[H.get_put];intro e;have:3≤i:=hi;omega) (s3 _)
theorem bend4 {d K:Nat}{x:BendM}{gr:Int}{R n J:Nat}{Rt:Nat→List Int}{c:Nat→Int}{F:Nat→Nat→List Int}(hK:K≤1000000)(hR:R≤K)(hn:n≤K)(hJ:J<n){t:T}{g':G}{V:Ky→AV}{E:Ky→En}{Qk:QT}
  (h2:tat t 2=.hptr 0 0 0 0) (h3:tat t 3=.hptr 1 0 0 0) (h4:tat t 4=.hptr 2 0 0 0) (h5:tat t 5=V (4,0)) (h8:tat t 8=V (4,1)) (h11:tat t 11=rptr 4 (V (4,1)) J 0) (hH:Hp g' 3 (LB R n) V E)
  (f0:g'.h.get 0=.cells 4 [[u8v x.1,u8v x.2.1,u8v x.2.2.1,.int .i64 x.2.2.2]] 0 false false) (f1:g'.h.get 1=.cells 3 [[.int .i64 gr,V (4,0),V (4,1)]] 0 false false) (f2:g'.h.get 2=.cells 3 [[.int .i64 0,.nils,.nils]] 0 false false) (hD:BD K R n V E Rt c F)
  (fin:∀t g gr rv nv rts nds,tat t 3=.hptr 1 0 0 0→tat t 4=.hptr 2 0 0 0→g.h.get 1=.cells 3 [[.int .i64 gr,rv,nv]] 0 false false→g.h.get 2=.cells 3 [[.int .i64 0,.nils,.nils]] 0 false false→SlR P3 0 g.h rts rv→SlR P3 0 g.h nds nv→Bnd (K+1) ⟨gr,rts,nds⟩→Qk .norm t [] g) :
  wp C0 d none (.feet [0,0,2,6,14,0,32,96,254,511,1023,2047] [o 164 (.mv (.t 11)),o 165 (.mv (.t 11)),o 166 (.nilc (.t 165)),o 167 (.fad 1 (.t 166)),o 168 (.load false 1 (.t 167)),o 169 (.fad 3 (.t 2)),o 170 (.load false 1 (.t 169)),o 171 (.bsl 1 1 [.int .i64 0] [0] [.t 170]),o 172 (.app 1 8 (.t 168) (.t 171)),o 173 (.nilc (.t 164)),o 174 (.fad 1 (.t 173)),oz (.store 1 (.t 174) (.t 172))]) Qk t [] g':=by
 have o0:=hH.own (k:=(4,0)) (by simp[LB]) hD.rs
 have o1:=hH.own (k:=(4,1)) (by simp[LB]) hD.ns
 have hDu:=hD.up (show K≤K+1 by omega)
 have hn0:0<n:=by omega
 have ry1:rowy (V (4,1))=true:=rowy_of o1.rows (i:=0) (by simpa using hn0)
 have lrow:((List.range n).map fun i=>[AV.int .i64 (c i),V (1,i),V (2,i),V (3,i)]).length=n:=by simp
 have hrowJ:((List.range n).map fun i=>[AV.int .i64 (c i),V (1,i),V (2,i),V (3,i)])[J]?=some [AV.int .i64 (c J),V (1,J),V (2,J),V (3,J)]:=by simp[hJ]
 have hnx:=hH.nx
 have hq:=hD.f 1 J (by omega) (by omega) hJ
 have hkL:LB R n (1,J):=.inr (.inl ⟨by simp,by simp,hJ⟩)
 have hown:=hH.own hkL hq.1
 have hlk:=hq.2
 have hnx:=hH.nx
 simp only[sx,sy,sf,SO.run,↓reduceIte,Nat.reduceEqDiff,Nat.reduceAdd,Nat.reduceLeDiff,h2,h11,f0,nilc_rptr ry1,o1.rows,lrow,hJ,ry1,hrowJ,Option.isSome_some,Option.getD_some]
 refine Hp.app (k:=(1,J)) (hH.step (by simp;try omega) (fun i hi hi2=>?_)) hkL hq.1 (new:=[[.int .i64 (x.2.2.2)]]) (by simp[sx,sy,H.get_put]) (by simp[room];omega) fun v1 ga hHa na fra fsa lga vca vta=>?_
 ·simp[H.get_put];try omega
 simp only[sx,sy] at na fra fsa lga
 have o1a:=hHa.own (k:=(4,1)) (by simp[LB]) (by rw[ups_ne _ _ (by simp)];exact hD.ns)
 rw[ups_ne _ _ (by simp)] at o1a
 have hNr:=o1a.rows
 simp only[sx,sy,sf,SO.run,↓reduceIte,Nat.reduceEqDiff,Nat.reduceAdd,Nat.reduceLeDiff,h2,h11,nilc_rptr ry1,fad_rptr ry1]
 have vv:V (4,1)=ups V (1,J) v1 (4,1):=(ups_ne _ _ (by simp)).symm
 rw[vv]
 refine Hp.put (k:=(4,1)) (row:=[.int .i64 (c J),V (1,J),V (2,J),V (3,J)]) (row':=[.int .i64 (c J),v1,V (2,J),V (3,J)]) (hHa.same (by simp) (by simp;try omega)) (by simp[LB]) (by rw[ups_ne _ _ (by simp)];exact hD.ns) hrowJ (by rw[vca];rfl) vta (by rw[vca];rfl) fun gb hHb nb frb _=>?_
 try simp only[sx,sy] at nb frb
 have hDb:BD (K+1) R n (ups V (1,J) v1) (ups (ups E (1,J) (.sl 1 ((F 1 J).map ci++[[.int .i64 (x.2.2.2)]]))) (4,1) (.sl 4 (((List.range n).map fun i=>[.int .i64 (c i),V (1,i),V (2,i),V (3,i)]).set J [.int .i64 (c J),v1,V (2,J),V (3,J)]))) Rt c
   (fun q'=>if q'=1 then ups (F 1) J (F 1 J++[x.2.2.2]) else F q'):=by
  refine ⟨fun i hi=>?_,fun q' i a1 a2 hi=>?_,?_,?_⟩
  ·rw[ups_ne _ _ (by simp),ups_ne _ _ (by simp)];exact ⟨(hD.r i hi).1,by have:=(hD.r i hi).2;omega⟩
  ·have hf:=hD.f q' i a1 a2 hi
   rw[ups_ne _ _ (by simp;omega)]
   by_cases e:(q',i)=(1,J)
   ·obtain ⟨rfl,rfl⟩:=Prod.mk.inj e
    rw[ups_self,if_pos rfl,ups_self]
    exact ⟨by simp[ci],by simp;omega⟩
   ·rw[ups_ne _ _ e]
    split
    ·rename_i e2;subst e2
     rw[ups_ne _ _ (fun e3=>e (by rw[e3]))];exact ⟨hf.1,by omega⟩
    ·exact ⟨hf.1,by omega⟩
  ·rw[ups_ne _ _ (by simp),ups_ne _ _ (by simp),hD.rs]
   exact congrArg (En.sl 1) (List.map_congr_left fun i _=>by rw[ups_ne _ _ (by simp)])
  ·rw[ups_self]
   refine congrArg (En.sl 4) ?_
   exact mapset (fun i=>by by_cases e:i=J;(· subst e;rw[if_pos rfl,ups_self,ups_ne V (k:=(1,i)) (j:=(2,i)) _ (by simp),ups_ne V (k:=(1,i)) (j:=(3,i)) _ (by simp)]);(· rw[if_neg e,ups_ne V (k:=(1,J)) (j:=(1,i)) _ (by simp[e]),ups_ne V (k:=(1,J)) (j:=(2,i)) _ (by simp[e]),ups_ne V (k:=(1,J)) (j:=(3,i)) _ (by simp[e])]))
 obtain ⟨s1,s2,s3⟩:=hDb.sl hHb (by omega) (by omega) (by omega)
 rw[ups_ne _ _ (by simp)] at s1 s2
 have g1e:gb.h.get 1=.cells 3 [[.int .i64 gr,V (4,0),V (4,1)]] 0 false false:=by rw[frb 1 (by omega),fra 1 (by omega)];simp[H.get_put,f1]<;>omega
 have g2e:gb.h.get 2=.cells 3 [[.int .i64 0,.nils,.nils]] 0 false false:=by rw[frb 2 (by omega),fra 2 (by omega)];simp[H.get_put,f2]<;>omega
 simp only[sx,sy,sf,SO.run,↓reduceIte,Nat.reduceEqDiff,Nat.reduceAdd,Nat.reduceLeDiff,vca,vta]
 refine ⟨?_,?_⟩
 ·simp only[List.reverse_cons,List.reverse_nil,List.nil_append,List.cons_append]
  refine footsOk_mk [false,false,false,false,false,false,false,true,true,false,false,true] [(0,7),(1,7),(2,7),(3,7),(4,7),(0,8)] (by simp[All2,rdLook,noLook,bigLook]) (by decide) ?_
  rintro p hp x y hx hy
  try simp only[List.mem_cons,List.not_mem_nil,or_false] at hp
  have ro:=hown.refs_lt
  have ro1:=o1.refs_lt
  rcases hp with rfl | rfl | rfl | rfl | rfl | rfl<;>(simp at hx hy;subst hx;subst hy;refine apart_mk rfl rfl rfl rfl ?_ ?_ ?_<;>simp[rdLook,noLook,refIds_hptr,refIds_rptr ry1,ups_ne]<;>first | omega | (intro i' hi';have:=ro1 i' hi';omega) | (intro i' hi';rcases lga i' hi' with h | h<;>first | omega | simp at h) | skip)
 exact fin _ _ gr _ _ _ _ (by simp[sx,h3]) (by simp[sx,h4]) (by simpa using g1e) (by simpa using g2e) (s1.heap (by simp)) (s2.heap (by simp)) (s3 gr)
theorem bend5 {d K:Nat}{x:BendM}{gr:Int}{R n J:Nat}{Rt:Nat→List Int}{c:Nat→Int}{F:Nat→Nat→List Int}(hK:K≤1000000)(hR:R≤K)(hn:n≤K)(hJ:J<n){t:T}{g':G}{V:Ky→AV}{E:Ky→En}{Qk:QT}
  (h2:tat t 2=.hptr 0 0 0 0) (h3:tat t 3=.hptr 1 0 0 0) (h4:tat t 4=.hptr 2 0 0 0) (h5:tat t 5=V (4,0)) (h8:tat t 8=V (4,1)) (h11:tat t 11=rptr 4 (V (4,1)) J 0) (hH:Hp g' 3 (LB R n) V E)
  (f0:g'.h.get 0=.cells 4 [[u8v x.1,u8v x.2.1,u8v x.2.2.1,.int .i64 x.2.2.2]] 0 false false) (f1:g'.h.get 1=.cells 3 [[.int .i64 gr,V (4,0),V (4,1)]] 0 false false) (f2:g'.h.get 2=.cells 3 [[.int .i64 0,.nils,.nils]] 0 false false) (hD:BD K R n V E Rt c F)
  (fin:∀t g gr rv nv rts nds,tat t 3=.hptr 1 0 0 0→tat t 4=.hptr 2 0 0 0→g.h.get 1=.cells 3 [[.int .i64 gr,rv,nv]] 0 false false→g.h.get 2=.cells 3 [[.int .i64 0,.nils,.nils]] 0 false false→SlR P3 0 g.h rts rv→SlR P3 0 g.h nds nv→Bnd (K+1) ⟨gr,rts,nds⟩→Qk .norm t [] g) :
  wp C0 d none (.feet [0,0,2,6,14,0,32,96,254,511,1023,2047] [o 177 (.mv (.t 11)),o 178 (.mv (.t 11)),o 179 (.nilc (.t 178)),o 180 (.fad 2 (.t 179)),o 181 (.load false 1 (.t 180)),o 182 (.fad 3 (.t 2)),o 183 (.load false 1 (.t 182)),o 184 (.bsl 1 1 [.int .i64 0] [0] [.t 183]),o 185 (.app 1 8 (.t 181) (.t 184)),o 186 (.nilc (.t 177)),o 187 (.fad 2 (.t 186)),oz (.store 1 (.t 187) (.t 185))]) Qk t [] g':=by
 have o0:=hH.own (k:=(4,0)) (by simp[LB]) hD.rs
 have o1:=hH.own (k:=(4,1)) (by simp[LB]) hD.ns
 have hDu:=hD.up (show K≤K+1 by omega)
 have hn0:0<n:=by omega
 have ry1:rowy (V (4,1))=true:=rowy_of o1.rows (i:=0) (by simpa using hn0)
 have lrow:((List.range n).map fun i=>[AV.int .i64 (c i),V (1,i),V (2,i),V (3,i)]).length=n:=by simp
 have hrowJ:((List.range n).map fun i=>[AV.int .i64 (c i),V (1,i),V (2,i),V (3,i)])[J]?=some [AV.int .i64 (c J),V (1,J),V (2,J),V (3,J)]:=by simp[hJ]
 have hnx:=hH.nx
 have hq:=hD.f 2 J (by omega) (by omega) hJ
 have hkL:LB R n (2,J):=.inr (.inl ⟨by simp,by simp,hJ⟩)
 have hown:=hH.own hkL hq.1
 have hlk:=hq.2
 have hnx:=hH.nx
 simp only[sx,sy,sf,SO.run,↓reduceIte,Nat.reduceEqDiff,Nat.reduceAdd,Nat.reduceLeDiff,h2,h11,f0,nilc_rptr ry1,o1.rows,lrow,hJ,ry1,hrowJ,Option.isSome_some,Option.getD_some]
 refine Hp.app (k:=(2,J)) (hH.step (by simp;try omega) (fun i hi hi2=>?_)) hkL hq.1 (new:=[[.int .i64 (x.2.2.2)]]) (by simp[sx,sy,H.get_put]) (by simp[room];omega) fun v1 ga hHa na fra fsa lga vca vta=>?_
 ·simp[H.get_put];try omega
 simp only[sx,sy] at na fra fsa lga
 have o1a:=hHa.own (k:=(4,1)) (by simp[LB]) (by rw[ups_ne _ _ (by simp)];exact hD.ns)
 rw[ups_ne _ _ (by simp)] at o1a
 have hNr:=o1a.rows
 simp only[sx,sy,sf,SO.run,↓reduceIte,Nat.reduceEqDiff,Nat.reduceAdd,Nat.reduceLeDiff,h2,h11,nilc_rptr ry1,fad_rptr ry1]
 have vv:V (4,1)=ups V (2,J) v1 (4,1):=(ups_ne _ _ (by simp)).symm
 rw[vv]
 refine Hp.put (k:=(4,1)) (row:=[.int .i64 (c J),V (1,J),V (2,J),V (3,J)]) (row':=[.int .i64 (c J),V (1,J),v1,V (3,J)]) (hHa.same (by simp) (by simp;try omega)) (by simp[LB]) (by rw[ups_ne _ _ (by simp)];exact hD.ns) hrowJ (by rw[vca];rfl) vta (by rw[vca];rfl) fun gb hHb nb frb _=>?_
 try simp only[sx,sy] at nb frb
 have hDb:BD (K+1) R n (ups V (2,J) v1) (ups (ups E (2,J) (.sl 1 ((F 2 J).map ci++[[.int .i64 (x.2.2.2)]]))) (4,1) (.sl 4 (((List.range n).map fun i=>[.int .i64 (c i),V (1,i),V (2,i),V (3,i)]).set J [.int .i64 (c J),V (1,J),v1,V (3,J)]))) Rt c
   (fun q'=>if q'=2 then ups (F 2) J (F 2 J++[x.2.2.2]) else F q'):=by
  refine ⟨fun i hi=>?_,fun q' i a1 a2 hi=>?_,?_,?_⟩
  ·rw[ups_ne _ _ (by simp),ups_ne _ _ (by simp)];exact ⟨(hD.r i hi).1,by have:=(hD.r i hi).2;omega⟩
  ·have hf:=hD.f q' i a1 a2 hi
   rw[ups_ne _ _ (by simp;omega)]
   by_cases e:(q',i)=(2,J)
   ·obtain ⟨rfl,rfl⟩:=Prod.mk.inj e
    rw[ups_self,if_pos rfl,ups_self]
    exact ⟨by simp[ci],by simp;omega⟩
   ·rw[ups_ne _ _ e]
    split
    ·rename_i e2;subst e2
     rw[ups_ne _ _ (fun e3=>e (by rw[e3]))];exact ⟨hf.1,by omega⟩
    ·exact ⟨hf.1,by omega⟩
  ·rw[ups_ne _ _ (by simp),ups_ne _ _ (by simp),hD.rs]
   exact congrArg (En.sl 1) (List.map_congr_left fun i _=>by rw[ups_ne _ _ (by simp)])
  ·rw[ups_self]
   refine congrArg (En.sl 4) ?_
   exact mapset (fun i=>by by_cases e:i=J;(· subst e;rw[if_pos rfl,ups_self,ups_ne V (k:=(2,i)) (j:=(1,i)) _ (by simp),ups_ne V (k:=(2,i)) (j:=(3,i)) _ (by simp)]);(· rw[if_neg e,ups_ne V (k:=(2,J)) (j:=(1,i)) _ (by simp[e]),ups_ne V (k:=(2,J)) (j:=(2,i)) _ (by simp[e]),ups_ne V (k:=(2,J)) (j:=(3,i)) _ (by simp[e])]))
 obtain ⟨s1,s2,s3⟩:=hDb.sl hHb (by omega) (by omega) (by omega)
 rw[ups_ne _ _ (by simp)] at s1 s2
 have g1e:gb.h.get 1=.cells 3 [[.int .i64 gr,V (4,0),V (4,1)]] 0 false false:=by rw[frb 1 (by omega),fra 1 (by omega)];simp[H.get_put,f1]<;>omega
 have g2e:gb.h.get 2=.cells 3 [[.int .i64 0,.nils,.nils]] 0 false false:=by rw[frb 2 (by omega),fra 2 (by omega)];simp[H.get_put,f2]<;>omega
 simp only[sx,sy,sf,SO.run,↓reduceIte,Nat.reduceEqDiff,Nat.reduceAdd,Nat.reduceLeDiff,vca,vta]
 refine ⟨?_,?_⟩
 ·simp only[List.reverse_cons,List.reverse_nil,List.nil_append,List.cons_append]
  refine footsOk_mk [false,false,false,false,false,false,false,true,true,false,false,true] [(0,7),(1,7),(2,7),(3,7),(4,7),(0,8)] (by simp[All2,rdLook,noLook,bigLook]) (by decide) ?_
  rintro p hp x y hx hy
  try simp only[List.mem_cons,List.not_mem_nil,or_false] at hp
  have ro:=hown.refs_lt
  have ro1:=o1.refs_lt
  rcases hp with rfl | rfl | rfl | rfl | rfl | rfl<;>(simp at hx hy;subst hx;subst hy;refine apart_mk rfl rfl rfl rfl ?_ ?_ ?_<;>simp[rdLook,noLook,refIds_hptr,refIds_rptr ry1,ups_ne]<;>first | omega | (intro i' hi';have:=ro1 i' hi';omega) | (intro i' hi';rcases lga i' hi' with h | h<;>first | omega | simp at h) | skip)
 exact fin _ _ gr _ _ _ _ (by simp[sx,h3]) (by simp[sx,h4]) (by simpa using g1e) (by simpa using g2e) (s1.heap (by simp)) (s2.heap (by simp)) (s3 gr)
theorem bend7 {d K:Nat}{x:BendM}{gr:Int}{R n J:Nat}{Rt:Nat→List Int}{c:Nat→Int}{F:Nat→Nat→List Int}(hK:K≤1000000)(hR:R≤K)(hn:n≤K)(hJ:J<n){t:T}{g':G}{V:Ky→AV}{E:Ky→En}{Qk:QT}
  (h2:tat t 2=.hptr 0 0 0 0) (h3:tat t 3=.hptr 1 0 0 0) (h4:tat t 4=.hptr 2 0 0 0) (h5:tat t 5=V (4,0)) (h8:tat t 8=V (4,1)) (h11:tat t 11=rptr 4 (V (4,1)) J 0) (hH:Hp g' 3 (LB R n) V E)
  (f0:g'.h.get 0=.cells 4 [[u8v x.1,u8v x.2.1,u8v x.2.2.1,.int .i64 x.2.2.2]] 0 false false) (f1:g'.h.get 1=.cells 3 [[.int .i64 gr,V (4,0),V (4,1)]] 0 false false) (f2:g'.h.get 2=.cells 3 [[.int .i64 0,.nils,.nils]] 0 false false) (hD:BD K R n V E Rt c F)
  (fin:∀t g gr rv nv rts nds,tat t 3=.hptr 1 0 0 0→tat t 4=.hptr 2 0 0 0→g.h.get 1=.cells 3 [[.int .i64 gr,rv,nv]] 0 false false→g.h.get 2=.cells 3 [[.int .i64 0,.nils,.nils]] 0 false false→SlR P3 0 g.h rts rv→SlR P3 0 g.h nds nv→Bnd (K+1) ⟨gr,rts,nds⟩→Qk .norm t [] g) :
  wp C0 d none (.ops [o 214 (.mv (.t 11)),o 215 (.mv (.t 11)),o 216 (.nilc (.t 215)),o 217 (.fad 3 (.t 216)),o 218 (.load false 1 (.t 217)),o 219 (.bsl 1 1 [.int .i64 0] [0] [.k (.int .i64 0)]),o 220 (.app 1 8 (.t 218) (.t 219)),o 221 (.nilc (.t 214)),o 222 (.fad 3 (.t 221)),oz (.store 1 (.t 222) (.t 220))]) Qk t [] g':=by
 have o0:=hH.own (k:=(4,0)) (by simp[LB]) hD.rs
 have o1:=hH.own (k:=(4,1)) (by simp[LB]) hD.ns
 have hDu:=hD.up (show K≤K+1 by omega)
 have hn0:0<n:=by omega
 have ry1:rowy (V (4,1))=true:=rowy_of o1.rows (i:=0) (by simpa using hn0)
 have lrow:((List.range n).map fun i=>[AV.int .i64 (c i),V (1,i),V (2,i),V (3,i)]).length=n:=by simp
 have hrowJ:((List.range n).map fun i=>[AV.int .i64 (c i),V (1,i),V (2,i),V (3,i)])[J]?=some [AV.int .i64 (c J),V (1,J),V (2,J),V (3,J)]:=by simp[hJ]
 have hnx:=hH.nx
 have hq:=hD.f 3 J (by omega) (by omega) hJ
 have hkL:LB R n (3,J):=.inr (.inl ⟨by simp,by simp,hJ⟩)
 have hown:=hH.own hkL hq.1
 have hlk:=hq.2
 have hnx:=hH.nx
 simp only[sx,sy,SO.run,↓reduceIte,Nat.reduceEqDiff,Nat.reduceAdd,Nat.reduceLeDiff,h2,h11,f0,nilc_rptr ry1,o1.rows,lrow,hJ,ry1,hrowJ,Option.isSome_some,Option.getD_some]
 refine Hp.app (k:=(3,J)) (hH.step (by simp;try omega) (fun i hi hi2=>?_)) hkL hq.1 (new:=[[.int .i64 (0)]]) (by simp[sx,sy,H.get_put]) (by simp[room];omega) fun v1 ga hHa na fra fsa lga vca vta=>?_
 ·simp[H.get_put];try omega
 simp only[sx,sy] at na fra fsa lga
 have o1a:=hHa.own (k:=(4,1)) (by simp[LB]) (by rw[ups_ne _ _ (by simp)];exact hD.ns)
 rw[ups_ne _ _ (by simp)] at o1a
 have hNr:=o1a.rows
 simp only[sx,sy,SO.run,↓reduceIte,Nat.reduceEqDiff,Nat.reduceAdd,Nat.reduceLeDiff,h2,h11,nilc_rptr ry1,fad_rptr ry1]
 have vv:V (4,1)=ups V (3,J) v1 (4,1):=(ups_ne _ _ (by simp)).symm
 rw[vv]
 refine Hp.put (k:=(4,1)) (row:=[.int .i64 (c J),V (1,J),V (2,J),V (3,J)]) (row':=[.int .i64 (c J),V (1,J),V (2,J),v1]) (hHa.same (by simp) (by simp;try omega)) (by simp[LB]) (by rw[ups_ne _ _ (by simp)];exact hD.ns) hrowJ (by rw[vca];rfl) vta (by rw[vca];rfl) fun gb hHb nb frb _=>?_
 try simp only[sx,sy] at nb frb
 have hDb:BD (K+1) R n (ups V (3,J) v1) (ups (ups E (3,J) (.sl 1 ((F 3 J).map ci++[[.int .i64 (0)]]))) (4,1) (.sl 4 (((List.range n).map fun i=>[.int .i64 (c i),V (1,i),V (2,i),V (3,i)]).set J [.int .i64 (c J),V (1,J),V (2,J),v1]))) Rt c
   (fun q'=>if q'=3 then ups (F 3) J (F 3 J++[0]) else F q'):=by
  refine ⟨fun i hi=>?_,fun q' i a1 a2 hi=>?_,?_,?_⟩
  ·rw[ups_ne _ _ (by simp),ups_ne _ _ (by simp)];exact ⟨(hD.r i hi).1,by have:=(hD.r i hi).2;omega⟩
  ·have hf:=hD.f q' i a1 a2 hi
   rw[ups_ne _ _ (by simp;omega)]
   by_cases e:(q',i)=(3,J)
   ·obtain ⟨rfl,rfl⟩:=Prod.mk.inj e
    rw[ups_self,if_pos rfl,ups_self]
    exact ⟨by simp[ci],by simp;omega⟩
   ·rw[ups_ne _ _ e]
    split
    ·rename_i e2;subst e2
     rw[ups_ne _ _ (fun e3=>e (by rw[e3]))];exact ⟨hf.1,by omega⟩
    ·exact ⟨hf.1,by omega⟩
  ·rw[ups_ne _ _ (by simp),ups_ne _ _ (by simp),hD.rs]
   exact congrArg (En.sl 1) (List.map_congr_left fun i _=>by rw[ups_ne _ _ (by simp)])
  ·rw[ups_self]
   refine congrArg (En.sl 4) ?_
   exact mapset (fun i=>by by_cases e:i=J;(· subst e;rw[if_pos rfl,ups_self,ups_ne V (k:=(3,i)) (j:=(1,i)) _ (by simp),ups_ne V (k:=(3,i)) (j:=(2,i)) _ (by simp)]);(· rw[if_neg e,ups_ne V (k:=(3,J)) (j:=(1,i)) _ (by simp[e]),ups_ne V (k:=(3,J)) (j:=(2,i)) _ (by simp[e]),ups_ne V (k:=(3,J)) (j:=(3,i)) _ (by simp[e])]))
 obtain ⟨s1,s2,s3⟩:=hDb.sl hHb (by omega) (by omega) (by omega)
 rw[ups_ne _ _ (by simp)] at s1 s2
 have g1e:gb.h.get 1=.cells 3 [[.int .i64 gr,V (4,0),V (4,1)]] 0 false false:=by rw[frb 1 (by omega),fra 1 (by omega)];simp[H.get_put,f1]<;>omega
 have g2e:gb.h.get 2=.cells 3 [[.int .i64 0,.nils,.nils]] 0 false false:=by rw[frb 2 (by omega),fra 2 (by omega)];simp[H.get_put,f2]<;>omega
 try simp only[sx,sy,SO.run,↓reduceIte,Nat.reduceEqDiff,Nat.reduceAdd,Nat.reduceLeDiff,vca,vta]
 exact fin _ _ gr _ _ _ _ (by simp[sx,h3]) (by simp[sx,h4]) (by simpa using g1e) (by simpa using g2e) (s1.heap (by simp)) (s2.heap (by simp)) (s3 gr)
theorem bend3 {d K:Nat}{x:BendM}{gr:Int}{R n J:Nat}{Rt:Nat→List Int}{c:Nat→Int}{F:Nat→Nat→List Int}(hK:K≤1000000)(hR:R≤K)(hn:n≤K)(hJ:J<n){t:T}{g':G}{V:Ky→AV}{E:Ky→En}{Qk:QT}
  (h2:tat t 2=.hptr 0 0 0 0) (h3:tat t 3=.hptr 1 0 0 0) (h4:tat t 4=.hptr 2 0 0 0) (h5:tat t 5=V (4,0)) (h8:tat t 8=V (4,1)) (h11:tat t 11=rptr 4 (V (4,1)) J 0) (hH:Hp g' 3 (LB R n) V E)
  (f0:g'.h.get 0=.cells 4 [[u8v x.1,u8v x.2.1,u8v x.2.2.1,.int .i64 x.2.2.2]] 0 false false) (f1:g'.h.get 1=.cells 3 [[.int .i64 gr,V (4,0),V (4,1)]] 0 false false) (f2:g'.h.get 2=.cells 3 [[.int .i64 0,.nils,.nils]] 0 false false) (hD:BD K R n V E Rt c F)
  (fin:∀t g gr rv nv rts nds,tat t 3=.hptr 1 0 0 0→tat t 4=.hptr 2 0 0 0→g.h.get 1=.cells 3 [[.int .i64 gr,rv,nv]] 0 false false→g.h.get 2=.cells 3 [[.int .i64 0,.nils,.nils]] 0 false false→SlR P3 0 g.h rts rv→SlR P3 0 g.h nds nv→Bnd (K+1) ⟨gr,rts,nds⟩→Qk .norm t [] g) :
  wp C0 d none (.ops [o 157 (.mv (.t 11)),o 158 (.fad 3 (.t 2)),o 159 (.load false 1 (.t 158)),o 160 (.nilc (.t 157)),o 161 (.fad 0 (.t 160)),oz (.store 1 (.t 161) (.t 159))]) Qk t [] g':=by
 have o0:=hH.own (k:=(4,0)) (by simp[LB]) hD.rs
 have o1:=hH.own (k:=(4,1)) (by simp[LB]) hD.ns
 have hDu:=hD.up (show K≤K+1 by omega)
 have hn0:0<n:=by omega
 have ry1:rowy (V (4,1))=true:=rowy_of o1.rows (i:=0) (by simpa using hn0)
 have lrow:((List.range n).map fun i=>[AV.int .i64 (c i),V (1,i),V (2,i),V (3,i)]).length=n:=by simp
 have hrowJ:((List.range n).map fun i=>[AV.int .i64 (c i),V (1,i),V (2,i),V (3,i)])[J]?=some [AV.int .i64 (c J),V (1,J),V (2,J),V (3,J)]:=by simp[hJ]
 have hnx:=hH.nx
 simp only[sx,sy,SO.run,↓reduceIte,Nat.reduceEqDiff,Nat.reduceAdd,Nat.reduceLeDiff,h2,h11,f0,nilc_rptr ry1,fad_rptr ry1]
 refine Hp.put (k:=(4,1)) (row:=[.int .i64 (c J),V (1,J),V (2,J),V (3,J)]) (row':=[.int .i64 x.2.2.2,V (1,J),V (2,J),V (3,J)]) hH (by simp[LB]) hD.ns hrowJ rfl rfl rfl fun gb hHb nb frb _=>?_
 have hDb:BD (K+1) R n V (ups E (4,1) (.sl 4 (((List.range n).map fun i=>[.int .i64 (c i),V (1,i),V (2,i),V (3,i)]).set J [.int .i64 x.2.2.2,V (1,J),V (2,J),V (3,J)]))) Rt (ups c J x.2.2.2) F:=by
  refine ⟨fun i hi=>?_,fun q' i a1 a2 hi=>?_,?_,?_⟩
  ·rw[ups_ne _ _ (by simp)];exact hDu.r i hi
  ·rw[ups_ne _ _ (by simp;omega)];exact hDu.f q' i a1 a2 hi
  ·rw[ups_ne _ _ (by simp)];exact hD.rs
  ·rw[ups_self]
   refine congrArg (En.sl 4) ?_
   exact mapset (fun i=>by by_cases e:i=J;(· subst e;rw[if_pos rfl,ups_self]);(· rw[if_neg e,ups_ne _ _ e]))
 obtain ⟨s1,s2,s3⟩:=hDb.sl hHb (by omega) (by omega) (by omega)
 have g1e:gb.h.get 1=.cells 3 [[.int .i64 gr,V (4,0),V (4,1)]] 0 false false:=by rw[frb 1 (by omega),f1]
 have g2e:gb.h.get 2=.cells 3 [[.int .i64 0,.nils,.nils]] 0 false false:=by rw[frb 2 (by omega),f2]
 simp only[sx,sy,SO.run,↓reduceIte,Nat.reduceEqDiff,Nat.reduceAdd,Nat.reduceLeDiff]
 exact fin _ _ gr _ _ _ _ (by simp[sx,h3]) (by simp[sx,h4]) g1e g2e s1 s2 (s3 gr)
theorem bend6 {d K:Nat}{x:BendM}{gr:Int}{R n J:Nat}{Rt:Nat→List Int}{c:Nat→Int}{F:Nat→Nat→List Int}(hK:K≤1000000)(hR:R≤K)(hn:n≤K)(hJ:J<n){t:T}{g':G}{V:Ky→AV}{E:Ky→En}{Qk:QT}
  (h2:tat t 2=.hptr 0 0 0 0) (h3:tat t 3=.hptr 1 0 0 0) (h4:tat t 4=.hptr 2 0 0 0) (h5:tat t 5=V (4,0)) (h8:tat t 8=V (4,1)) (h11:tat t 11=rptr 4 (V (4,1)) J 0) (hH:Hp g' 3 (LB R n) V E)
  (f0:g'.h.get 0=.cells 4 [[u8v x.1,u8v x.2.1,u8v x.2.2.1,.int .i64 x.2.2.2]] 0 false false) (f1:g'.h.get 1=.cells 3 [[.int .i64 gr,V (4,0),V (4,1)]] 0 false false) (f2:g'.h.get 2=.cells 3 [[.int .i64 0,.nils,.nils]] 0 false false) (hD:BD K R n V E Rt c F)
  (fin:∀t g gr rv nv rts nds,tat t 3=.hptr 1 0 0 0→tat t 4=.hptr 2 0 0 0→g.h.get 1=.cells 3 [[.int .i64 gr,rv,nv]] 0 false false→g.h.get 2=.cells 3 [[.int .i64 0,.nils,.nils]] 0 false false→SlR P3 0 g.h rts rv→SlR P3 0 g.h nds nv→Bnd (K+1) ⟨gr,rts,nds⟩→Qk .norm t [] g) :
  wp C0 d none (.seq (.ops [o 190 (.mv (.t 11)),o 191 (.nilc (.t 190)),o 192 (.fad 3 (.t 191)),o 193 (.load false 1 (.t 192)),o 194 (.len .slice (.t 193)),o 195 (.bin .gtr (.t 194) (.k (.int .i64 0)))]) (.cond (.t 195) (.feet [0,1,3,7,0,16,48,0,128,384,896,1920,4080,0,8192,32767,65535] [o 196 (.mv (.t 11)),o 197 (.nilc (.t 196)),o 198 (.fad 3 (.t 197)),o 199 (.load false 1 (.t 198)),o 200 (.fad 2 (.t 2)),o 201 (.load false 1 (.t 200)),o 202 (.conv .i64 (.t 201)),o 203 (.mv (.t 11)),o 204 (.nilc (.t 203)),o 205 (.fad 3 (.t 204)),o 206 (.load false 1 (.t 205)),o 207 (.len .slice (.t 206)),o 208 (.bin .rem (.t 202) (.t 207)),o 209 (.fad 3 (.t 2)),o 210 (.load false 1 (.t 209)),o 211 (.ixs 1 (.t 199) (.t 208)),oz (.store 1 (.t 211) (.t 210))]) (.skip))) Qk t [] g':=by
 have o0:=hH.own (k:=(4,0)) (by simp[LB]) hD.rs
 have o1:=hH.own (k:=(4,1)) (by simp[LB]) hD.ns
 have hDu:=hD.up (show K≤K+1 by omega)
 have hn0:0<n:=by omega
 have ry1:rowy (V (4,1))=true:=rowy_of o1.rows (i:=0) (by simpa using hn0)
 have lrow:((List.range n).map fun i=>[AV.int .i64 (c i),V (1,i),V (2,i),V (3,i)]).length=n:=by simp
 have hrowJ:((List.range n).map fun i=>[AV.int .i64 (c i),V (1,i),V (2,i),V (3,i)])[J]?=some [AV.int .i64 (c J),V (1,J),V (2,J),V (3,J)]:=by simp[hJ]
 have hnx:=hH.nx
 have k8:x.2.2.1.toNat<256:=x.2.2.1.toNat_lt
 have hq:=hD.f 3 J (by omega) (by omega) hJ
 have hkL:LB R n (3,J):=.inr (.inl ⟨by simp,by simp,hJ⟩)
 have hown:=hH.own hkL hq.1
 have lo:=len_rows' hown.rows
 rw[List.length_map] at lo
 simp only[sx,sy,SO.run,↓reduceIte,Nat.reduceEqDiff,Nat.reduceAdd,Nat.reduceLeDiff,h2,h11,nilc_rptr ry1,fad_rptr ry1,o1.rows,lrow,hJ,ry1,hrowJ,lo,Option.isSome_some,Option.getD_some]
 refine bifP_mk (fun hb=>?_) (fun hb=>?_)
 ·have hpos:0<(F 3 J).length:=by simpa using hb
  have em:((x.2.2.1.toNat:Int) % ((F 3 J).length:Int))=((x.2.2.1.toNat % (F 3 J).length:Nat):Int):=by omega
  have hidx:x.2.2.1.toNat % (F 3 J).length<(F 3 J).length:=Nat.mod_lt _ hpos
  obtain ⟨idx,hie⟩:∃idx,idx=x.2.2.1.toNat % (F 3 J).length:=⟨_,rfl⟩
  rw[←hie] at em hidx
  ·simp only[sx,sy,sf,SO.run,↓reduceIte,Nat.reduceEqDiff,Nat.reduceAdd,Nat.reduceLeDiff,h2,h11,f0,nilc_rptr ry1,fad_rptr ry1,o1.rows,lrow,hJ,ry1,hrowJ,lo,u8v,wrap64 (show -9223372036854775808≤(x.2.2.1.toNat:Int) by omega) (show (x.2.2.1.toNat:Int)<9223372036854775808 by omega),bin_rem .i64 (show (0:Int)≤(x.2.2.1.toNat:Int) by omega) (show 0<((F 3 J).length:Int) by omega),em,hown.rows,List.length_map,hidx,Option.isSome_some,Option.getD_some]
   refine Hp.put (k:=(3,J)) (row:=ci ((F 3 J)[idx]'hidx)) (row':=ci x.2.2.2) (hH.same (by simp) (by simp;try omega)) hkL hq.1 (by rw[List.getElem?_map,List.getElem?_eq_getElem hidx];rfl) rfl rfl rfl fun gb hHb nb frb _=>?_
   try simp only[sx,sy] at nb frb
   have hDb:BD (K+1) R n V (ups E (3,J) (.sl 1 (((F 3 J).map ci).set idx (ci x.2.2.2)))) Rt c (fun q'=>if q'=3 then ups (F 3) J ((F 3 J).set idx x.2.2.2) else F q'):=by
    refine ⟨fun i hi=>?_,fun q' i a1 a2 hi=>?_,?_,?_⟩
    ·rw[ups_ne _ _ (by simp)];exact hDu.r i hi
    ·by_cases e:(q',i)=(3,J)
     ·obtain ⟨rfl,rfl⟩:=Prod.mk.inj e
      rw[ups_self,if_pos rfl,ups_self]
      exact ⟨by rw[List.map_set],by rw[List.length_set];exact (hDu.f 3 i a1 a2 hi).2⟩
     ·rw[ups_ne _ _ e]
      have hf:=hDu.f q' i a1 a2 hi
      split
      ·rename_i e2;subst e2
       rw[ups_ne _ _ (fun e3=>e (by rw[e3]))];exact hf
      ·exact hf
    ·rw[ups_ne _ _ (by simp)];exact hD.rs
    ·rw[ups_ne _ _ (by simp)];exact hD.ns
   obtain ⟨s1,s2,s3⟩:=hDb.sl hHb (by omega) (by omega) (by omega)
   have g1e:gb.h.get 1=.cells 3 [[.int .i64 gr,V (4,0),V (4,1)]] 0 false false:=by rw[frb 1 (by omega)];simp[f1]
   have g2e:gb.h.get 2=.cells 3 [[.int .i64 0,.nils,.nils]] 0 false false:=by rw[frb 2 (by omega)];simp[f2]
   simp only[sx,sy,sf,SO.run,↓reduceIte,Nat.reduceEqDiff,Nat.reduceAdd,Nat.reduceLeDiff]
   refine ⟨?_,?_⟩
   ·simp only[List.reverse_cons,List.reverse_nil,List.nil_append,List.cons_append]
    exact footsOk_mk [false,false,false,false,false,false,false,false,false,false,false,false,false,false,false,false,true] [] (by simp[All2,rdLook,noLook,bigLook]) (by decide) (by simp)
   exact fin _ _ gr _ _ _ _ (by simp[sx,h3]) (by simp[sx,h4]) (by simpa using g1e) (by simpa using g2e) (s1.heap (by simp)) (s2.heap (by simp)) (s3 gr)
 ·obtain ⟨s1,s2,s3⟩:=hDu.sl hH (by omega) (by omega) (by omega)
  simp only[sx,sy,SO.run,↓reduceIte,Nat.reduceEqDiff,Nat.reduceAdd,Nat.reduceLeDiff]
  exact fin _ _ gr _ _ _ _ (by simp[sx,h3]) (by simp[sx,h4]) f1 f2 s1 s2 (s3 gr)
theorem bend2 {d K:Nat}{x:BendM}{gr:Int}{R n J:Nat}{Rt:Nat→List Int}{c:Nat→Int}{F:Nat→Nat→List Int}(hK:K≤1000000)(hR:R≤K)(hn:n≤K)(hJ:J<n){t:T}{g':G}{V:Ky→AV}{E:Ky→En}{Qk:QT}
  (h2:tat t 2=.hptr 0 0 0 0) (h3:tat t 3=.hptr 1 0 0 0) (h4:tat t 4=.hptr 2 0 0 0) (h5:tat t 5=V (4,0)) (h8:tat t 8=V (4,1)) (h11:tat t 11=rptr 4 (V (4,1)) J 0) (hH:Hp g' 3 (LB R n) V E)
  (f0:g'.h.get 0=.cells 4 [[u8v x.1,u8v x.2.1,u8v x.2.2.1,.int .i64 x.2.2.2]] 0 false false) (f1:g'.h.get 1=.cells 3 [[.int .i64 gr,V (4,0),V (4,1)]] 0 false false) (f2:g'.h.get 2=.cells 3 [[.int .i64 0,.nils,.nils]] 0 false false) (hD:BD K R n V E Rt c F)
  (fin:∀t g gr rv nv rts nds,tat t 3=.hptr 1 0 0 0→tat t 4=.hptr 2 0 0 0→g.h.get 1=.cells 3 [[.int .i64 gr,rv,nv]] 0 false false→g.h.get 2=.cells 3 [[.int .i64 0,.nils,.nils]] 0 false false→SlR P3 0 g.h rts rv→SlR P3 0 g.h nds nv→Bnd (K+1) ⟨gr,rts,nds⟩→Qk .norm t [] g) :
  wp C0 d none (.seq (.ops [o 120 (.mv (.t 5)),o 121 (.len .slice (.t 120)),o 122 (.bin .gtr (.t 121) (.k (.int .i64 0))),o 123 (.mv (.t 122)),og 124 123 true (.mv (.t 5)),og 125 123 true (.fad 1 (.t 2)),og 126 123 true (.load false 1 (.t 125)),og 127 123 true (.conv .i64 (.t 126)),og 128 123 true (.mv (.t 5)),og 129 123 true (.len .slice (.t 128)),og 130 123 true (.bin .rem (.t 127) (.t 129)),og 131 123 true (.ixs 1 (.t 124) (.t 130)),og 132 123 true (.load false 1 (.t 131)),og 133 123 true (.len .slice (.t 132)),og 134 123 true (.bin .gtr (.t 133) (.k (.int .i64 0))),o 135 (.pick (.t 123) (.t 134) (.k (.bool false)))]) (.cond (.t 135) (.seq (.ops [o 136 (.mv (.t 5)),o 137 (.fad 1 (.t 2)),o 138 (.load false 1 (.t 137)),o 139 (.conv .i64 (.t 138)),o 140 (.mv (.t 5)),o 141 (.len .slice (.t 140)),o 142 (.bin .rem (.t 139) (.t 141)),o 143 (.ixs 1 (.t 136) (.t 142)),o 144 (.load false 1 (.t 143)),o 12 (.mv (.t 144))]) (.feet [0,0,2,6,0,16,62,0,128,511,1023] [o 145 (.mv (.t 12)),o 146 (.fad 2 (.t 2)),o 147 (.load false 1 (.t 146)),o 148 (.conv .i64 (.t 147)),o 149 (.mv (.t 12)),o 150 (.len .slice (.t 149)),o 151 (.bin .rem (.t 148) (.t 150)),o 152 (.fad 3 (.t 2)),o 153 (.load false 1 (.t 152)),o 154 (.ixs 1 (.t 145) (.t 151)),oz (.store 1 (.t 154) (.t 153))])) (.skip))) Qk t [] g':=by
 have o0:=hH.own (k:=(4,0)) (by simp[LB]) hD.rs
 have o1:=hH.own (k:=(4,1)) (by simp[LB]) hD.ns
 have hDu:=hD.up (show K≤K+1 by omega)
 have hn0:0<n:=by omega
 have ry1:rowy (V (4,1))=true:=rowy_of o1.rows (i:=0) (by simpa using hn0)
 have lrow:((List.range n).map fun i=>[AV.int .i64 (c i),V (1,i),V (2,i),V (3,i)]).length=n:=by simp
 have hrowJ:((List.range n).map fun i=>[AV.int .i64 (c i),V (1,i),V (2,i),V (3,i)])[J]?=some [AV.int .i64 (c J),V (1,J),V (2,J),V (3,J)]:=by simp[hJ]
 have hnx:=hH.nx
 have k8:x.2.2.1.toNat<256:=x.2.2.1.toNat_lt
 have a8:x.2.1.toNat<256:=x.2.1.toNat_lt
 have len0:=len_rows' o0.rows
 rw[List.length_map,List.length_range] at len0
 have rlen:((List.range R).map fun i=>[V (0,i)]).length=R:=by simp
 have stay:∀t,tat t 3=.hptr 1 0 0 0→tat t 4=.hptr 2 0 0 0→Qk .norm t [] g':=fun t h3 h4=>by
  obtain ⟨s1,s2,s3⟩:=hDu.sl hH (by omega) (by omega) (by omega)
  exact fin _ _ gr _ _ _ _ h3 h4 f1 f2 s1 s2 (s3 gr)
 by_cases hR0:R=0
 ·subst hR0
  have hq0:decide ((0:Int)<((0:Nat):Int))=false:=by decide
  simp only[sx,sy,SO.run,↓reduceIte,Nat.reduceEqDiff,Nat.reduceAdd,Nat.reduceLeDiff,h5,len0,hq0]
  exact stay _ (by simp[sx,h3]) (by simp[sx,h4])
 have hq0:decide ((0:Int)<(R:Int))=true:=by simp;omega
 have em0:((x.2.1.toNat:Int) % (R:Int))=((x.2.1.toNat % R:Nat):Int):=by omega
 have hI:x.2.1.toNat % R<R:=Nat.mod_lt _ (by omega)
 obtain ⟨I,hIe⟩:∃I,I=x.2.1.toNat % R:=⟨_,rfl⟩
 rw[←hIe] at em0 hI
 have hq:=hD.r I hI
 have hkL:LB R n (0,I):=.inl ⟨rfl,hI⟩
 have hown:=hH.own hkL hq.1
 have lo:=len_rows' hown.rows
 rw[List.length_map] at lo
 have hrI:((List.range R).map fun i=>[V (0,i)])[I]?=some [V (0,I)]:=by simp[hI]
 simp only[sx,sy,SO.run,↓reduceIte,Nat.reduceEqDiff,Nat.reduceAdd,Nat.reduceLeDiff,h2,h5,f0,len0,hq0,u8v,wrap64 (show -9223372036854775808≤(x.2.1.toNat:Int) by omega) (show (x.2.1.toNat:Int)<9223372036854775808 by omega),bin_rem .i64 (show (0:Int)≤(x.2.1.toNat:Int) by omega) (show 0<(R:Int) by omega),em0,o0.rows,rlen,hI,hrI,lo,Option.isSome_some,Option.getD_some]
 refine bifP_mk (fun hb=>?_) (fun hb=>?_)
 ·have hpos:0<(Rt I).length:=by simpa using hb
  have em:((x.2.2.1.toNat:Int) % ((Rt I).length:Int))=((x.2.2.1.toNat % (Rt I).length:Nat):Int):=by omega
  have hidx:x.2.2.1.toNat % (Rt I).length<(Rt I).length:=Nat.mod_lt _ hpos
  obtain ⟨idx,hie⟩:∃idx,idx=x.2.2.1.toNat % (Rt I).length:=⟨_,rfl⟩
  rw[←hie] at em hidx
  ·simp only[sx,sy,sf,SO.run,↓reduceIte,Nat.reduceEqDiff,Nat.reduceAdd,Nat.reduceLeDiff,h2,h5,f0,len0,u8v,wrap64 (show -9223372036854775808≤(x.2.1.toNat:Int) by omega) (show (x.2.1.toNat:Int)<9223372036854775808 by omega),bin_rem .i64 (show (0:Int)≤(x.2.1.toNat:Int) by omega) (show 0<(R:Int) by omega),em0,o0.rows,rlen,hI,hrI,lo,wrap64 (show -9223372036854775808≤(x.2.2.1.toNat:Int) by omega) (show (x.2.2.1.toNat:Int)<9223372036854775808 by omega),bin_rem .i64 (show (0:Int)≤(x.2.2.1.toNat:Int) by omega) (show 0<((Rt I).length:Int) by omega),em,hown.rows,List.length_map,hidx,Option.isSome_some,Option.getD_some]
   refine Hp.put (k:=(0,I)) (row:=ci ((Rt I)[idx]'hidx)) (row':=ci x.2.2.2) (hH.same (by simp) (by simp;try omega)) hkL hq.1 (by rw[List.getElem?_map,List.getElem?_eq_getElem hidx];rfl) rfl rfl rfl fun gb hHb nb frb _=>?_
   try simp only[sx,sy] at nb frb
   have hDb:BD (K+1) R n V (ups E (0,I) (.sl 1 (((Rt I).map ci).set idx (ci x.2.2.2)))) (ups Rt I ((Rt I).set idx x.2.2.2)) c F:=by
    refine ⟨fun i hi=>?_,fun q' i a1 a2 hi=>?_,?_,?_⟩
    ·by_cases e:i=I
     ·subst e
      rw[ups_self,ups_self]
      exact ⟨by rw[List.map_set],by rw[List.length_set];exact (hDu.r i hi).2⟩
     ·rw[ups_ne _ _ (by simpa using e),ups_ne _ _ e];exact hDu.r i hi
    ·rw[ups_ne _ _ (by simp;omega)];exact hDu.f q' i a1 a2 hi
    ·rw[ups_ne _ _ (by simp)];exact hD.rs
    ·rw[ups_ne _ _ (by simp)];exact hD.ns
   obtain ⟨s1,s2,s3⟩:=hDb.sl hHb (by omega) (by omega) (by omega)
   have g1e:gb.h.get 1=.cells 3 [[.int .i64 gr,V (4,0),V (4,1)]] 0 false false:=by rw[frb 1 (by omega)];simp[f1]
   have g2e:gb.h.get 2=.cells 3 [[.int .i64 0,.nils,.nils]] 0 false false:=by rw[frb 2 (by omega)];simp[f2]
   simp only[sx,sy,sf,SO.run,↓reduceIte,Nat.reduceEqDiff,Nat.reduceAdd,Nat.reduceLeDiff]
   refine ⟨?_,?_⟩
   ·simp only[List.reverse_cons,List.reverse_nil,List.nil_append,List.cons_append]
    exact footsOk_mk [false,false,false,false,false,false,false,false,false,false,true] [] (by simp[All2,rdLook,noLook,bigLook]) (by decide) (by simp)
   exact fin _ _ gr _ _ _ _ (by simp[sx,h3]) (by simp[sx,h4]) (by simpa using g1e) (by simpa using g2e) (s1.heap (by simp)) (s2.heap (by simp)) (s3 gr)
 ·simp only[sx,sy,SO.run,↓reduceIte,Nat.reduceEqDiff,Nat.reduceAdd,Nat.reduceLeDiff]
  exact stay _ (by simp[sx,h3]) (by simp[sx,h4])
theorem bend8 {d K:Nat}{x:BendM}{gr:Int}{R n J:Nat}{Rt:Nat→List Int}{c:Nat→Int}{F:Nat→Nat→List Int}(hK:K≤1000000)(hR:R≤K)(hn:n≤K)(hJ:J<n){t:T}{g':G}{V:Ky→AV}{E:Ky→En}{Qk:QT}
  (h2:tat t 2=.hptr 0 0 0 0) (h3:tat t 3=.hptr 1 0 0 0) (h4:tat t 4=.hptr 2 0 0 0) (h5:tat t 5=V (4,0)) (h8:tat t 8=V (4,1)) (h11:tat t 11=rptr 4 (V (4,1)) J 0) (hH:Hp g' 3 (LB R n) V E)
  (f0:g'.h.get 0=.cells 4 [[u8v x.1,u8v x.2.1,u8v x.2.2.1,.int .i64 x.2.2.2]] 0 false false) (f1:g'.h.get 1=.cells 3 [[.int .i64 gr,V (4,0),V (4,1)]] 0 false false) (f2:g'.h.get 2=.cells 3 [[.int .i64 0,.nils,.nils]] 0 false false) (hD:BD K R n V E Rt c F)
  (fin:∀t g gr rv nv rts nds,tat t 3=.hptr 1 0 0 0→tat t 4=.hptr 2 0 0 0→g.h.get 1=.cells 3 [[.int .i64 gr,rv,nv]] 0 false false→g.h.get 2=.cells 3 [[.int .i64 0,.nils,.nils]] 0 false false→SlR P3 0 g.h rts rv→SlR P3 0 g.h nds nv→Bnd (K+1) ⟨gr,rts,nds⟩→Qk .norm t [] g) :
  wp C0 d none (.ops [o 225 (.mv (.t 11)),o 226 (.nilc (.t 225)),o 227 (.fad 1 (.t 226)),oz (.store 1 (.t 227) (.k (.nils)))]) Qk t [] g':=by
 have o0:=hH.own (k:=(4,0)) (by simp[LB]) hD.rs
 have o1:=hH.own (k:=(4,1)) (by simp[LB]) hD.ns
 have hDu:=hD.up (show K≤K+1 by omega)
 have hn0:0<n:=by omega
 have ry1:rowy (V (4,1))=true:=rowy_of o1.rows (i:=0) (by simpa using hn0)
 have lrow:((List.range n).map fun i=>[AV.int .i64 (c i),V (1,i),V (2,i),V (3,i)]).length=n:=by simp
 have hrowJ:((List.range n).map fun i=>[AV.int .i64 (c i),V (1,i),V (2,i),V (3,i)])[J]?=some [AV.int .i64 (c J),V (1,J),V (2,J),V (3,J)]:=by simp[hJ]
 have hnx:=hH.nx
 simp only[sx,sy,SO.run,↓reduceIte,Nat.reduceEqDiff,Nat.reduceAdd,Nat.reduceLeDiff,h2,h11,f0,nilc_rptr ry1,fad_rptr ry1]
 have hA:=(hH.sub (L':=fun k=>LB R n k∧k≠(1,J)) (fun k h=>h.1)).add (k:=(1,J)) (L':=LB R n) (v':=.nils) (e':=.sl 1 []) (fun h=>h.2 rfl) (.inl ⟨rfl,rfl⟩) (Nat.le_refl _) (fun _ _ _=>rfl) (fun i hi=>by cases hi) (fun k hk=>by by_cases e:k=(1,J);(· exact .inr e);(· exact .inl ⟨hk,e⟩))
 have vv:V (4,1)=ups V (1,J) .nils (4,1):=(ups_ne _ _ (by simp)).symm
 rw[vv]
 refine Hp.put (k:=(4,1)) (row:=[.int .i64 (c J),V (1,J),V (2,J),V (3,J)]) (row':=[.int .i64 (c J),.nils,V (2,J),V (3,J)]) hA (by simp[LB]) (by rw[ups_ne _ _ (by simp)];exact hD.ns) hrowJ rfl rfl rfl fun gb hHb nb frb _=>?_
 have hDb:BD (K+1) R n (ups V (1,J) .nils) (ups (ups E (1,J) (.sl 1 [])) (4,1) (.sl 4 (((List.range n).map fun i=>[.int .i64 (c i),V (1,i),V (2,i),V (3,i)]).set J [.int .i64 (c J),.nils,V (2,J),V (3,J)]))) Rt c
   (fun q'=>if q'=1 then ups (F 1) J [] else F q'):=by
  refine ⟨fun i hi=>?_,fun q' i a1 a2 hi=>?_,?_,?_⟩
  ·rw[ups_ne _ _ (by simp),ups_ne _ _ (by simp)];exact hDu.r i hi
  ·have hf:=hDu.f q' i a1 a2 hi
   rw[ups_ne _ _ (by simp;omega)]
   by_cases e:(q',i)=(1,J)
   ·obtain ⟨rfl,rfl⟩:=Prod.mk.inj e
    rw[ups_self,if_pos rfl,ups_self]
    exact ⟨rfl,by simp⟩
   ·rw[ups_ne _ _ e]
    split
    ·rename_i e2;subst e2
     rw[ups_ne _ _ (fun e3=>e (by rw[e3]))];exact hf
    ·exact hf
  ·rw[ups_ne _ _ (by simp),ups_ne _ _ (by simp),hD.rs]
   exact congrArg (En.sl 1) (List.map_congr_left fun i _=>by rw[ups_ne _ _ (by simp)])
  ·rw[ups_self]
   refine congrArg (En.sl 4) ?_
   exact mapset (fun i=>by by_cases e:i=J;(· subst e;rw[if_pos rfl,ups_self,ups_ne V (k:=(1,i)) (j:=(2,i)) _ (by simp),ups_ne V (k:=(1,i)) (j:=(3,i)) _ (by simp)]);(· rw[if_neg e,ups_ne V (k:=(1,J)) (j:=(1,i)) _ (by simp[e]),ups_ne V (k:=(1,J)) (j:=(2,i)) _ (by simp[e]),ups_ne V (k:=(1,J)) (j:=(3,i)) _ (by simp[e])]))
 obtain ⟨s1,s2,s3⟩:=hDb.sl hHb (by omega) (by omega) (by omega)
 rw[ups_ne _ _ (by simp)] at s1 s2
 have g1e:gb.h.get 1=.cells 3 [[.int .i64 gr,V (4,0),V (4,1)]] 0 false false:=by rw[frb 1 (by omega),f1]
 have g2e:gb.h.get 2=.cells 3 [[.int .i64 0,.nils,.nils]] 0 false false:=by rw[frb 2 (by omega),f2]
 simp only[sx,sy,SO.run,↓reduceIte,Nat.reduceEqDiff,Nat.reduceAdd,Nat.reduceLeDiff]
 exact fin _ _ gr _ _ _ _ (by simp[sx,h3]) (by simp[sx,h4]) g1e g2e s1 s2 (s3 gr)
theorem bend1 {d K:Nat}{x:BendM}{gr:Int}{R n J:Nat}{Rt:Nat→List Int}{c:Nat→Int}{F:Nat→Nat→List Int}(hK:K≤1000000)(hR:R≤K)(hn:n≤K)(hJ:J<n){t:T}{g':G}{V:Ky→AV}{E:Ky→En}{Qk:QT}
  (h2:tat t 2=.hptr 0 0 0 0) (h3:tat t 3=.hptr 1 0 0 0) (h4:tat t 4=.hptr 2 0 0 0) (h5:tat t 5=V (4,0)) (h8:tat t 8=V (4,1)) (h11:tat t 11=rptr 4 (V (4,1)) J 0) (hH:Hp g' 3 (LB R n) V E)
  (f0:g'.h.get 0=.cells 4 [[u8v x.1,u8v x.2.1,u8v x.2.2.1,.int .i64 x.2.2.2]] 0 false false) (f1:g'.h.get 1=.cells 3 [[.int .i64 gr,V (4,0),V (4,1)]] 0 false false) (f2:g'.h.get 2=.cells 3 [[.int .i64 0,.nils,.nils]] 0 false false) (hD:BD K R n V E Rt c F)
  (fin:∀t g gr rv nv rts nds,tat t 3=.hptr 1 0 0 0→tat t 4=.hptr 2 0 0 0→g.h.get 1=.cells 3 [[.int .i64 gr,rv,nv]] 0 false false→g.h.get 2=.cells 3 [[.int .i64 0,.nils,.nils]] 0 false false→SlR P3 0 g.h rts rv→SlR P3 0 g.h nds nv→Bnd (K+1) ⟨gr,rts,nds⟩→Qk .norm t [] g) :
  wp C0 d none (.ops [o 110 (.fad 1 (.t 3)),o 111 (.load false 1 (.t 110)),o 112 (.fad 0 (.t 3)),o 113 (.load false 1 (.t 112)),o 114 (.bsl 1 1 [.int .i64 0] [0] [.t 113]),o 115 (.bsl 1 1 [.nils] [0] [.t 114]),o 116 (.app 1 24 (.t 111) (.t 115)),o 117 (.fad 1 (.t 3)),oz (.store 1 (.t 117) (.t 116))]) Qk t [] g':=by
 have o0:=hH.own (k:=(4,0)) (by simp[LB]) hD.rs
 have o1:=hH.own (k:=(4,1)) (by simp[LB]) hD.ns
 have hDu:=hD.up (show K≤K+1 by omega)
 have hn0:0<n:=by omega
 have ry1:rowy (V (4,1))=true:=rowy_of o1.rows (i:=0) (by simpa using hn0)
 have lrow:((List.range n).map fun i=>[AV.int .i64 (c i),V (1,i),V (2,i),V (3,i)]).length=n:=by simp
 have hrowJ:((List.range n).map fun i=>[AV.int .i64 (c i),V (1,i),V (2,i),V (3,i)])[J]?=some [AV.int .i64 (c J),V (1,J),V (2,J),V (3,J)]:=by simp[hJ]
 have hnx:=hH.nx
 simp only[sx,sy,SO.run,↓reduceIte,Nat.reduceEqDiff,Nat.reduceAdd,Nat.reduceLeDiff,h3,f1]
 have hA:=(hH.add (k:=(0,R)) (L':=LB (R+1) n) (g':=g'.new (.cells 1 [[.int .i64 gr]] 0 false false)) (v':=.hsl g'.nx 0 0 1 none) (e':=.sl 1 [[.int .i64 gr]]) (by simp[LB]) (own_one hnx _) (by simp) (fun i _ hi=>by rw[G.new_h,get_put_ne _ _ _ (by omega)]) (fun i hi=>by injection hi with hi;omega) (fun k hk=>lb_root hk))
 have hB:=hA.step (g':=(g'.new (.cells 1 [[.int .i64 gr]] 0 false false)).new (.cells 1 [[.hsl g'.nx 0 0 1 none]] 0 false false)) (by simp) (fun i _ hi=>by rw[G.new_h,get_put_ne _ _ _ (by omega)])
 have vv:V (4,0)=ups V (0,R) (.hsl g'.nx 0 0 1 none) (4,0):=(ups_ne _ _ (by simp)).symm
 have vv1:V (4,1)=ups V (0,R) (.hsl g'.nx 0 0 1 none) (4,1):=(ups_ne _ _ (by simp)).symm
 rw[vv]
 refine hB.app (k:=(4,0)) (by simp[LB]) (by rw[ups_ne _ _ (by simp)];exact hD.rs) (new:=[[.hsl g'.nx 0 0 1 none]]) (by simp[sx,sy,H.get_put]) (by simp[room];omega) fun v1 gb hHb nb frb _ _ vca vta=>?_
 simp only[sx,sy] at nb frb
 have g1e:gb.h.get 1=.cells 3 [[.int .i64 gr,V (4,0),V (4,1)]] 0 false false:=by rw[frb 1 (by omega),if_neg (by omega),if_neg (by omega),f1]
 have g2e:gb.h.get 2=.cells 3 [[.int .i64 0,.nils,.nils]] 0 false false:=by rw[frb 2 (by omega),if_neg (by omega),if_neg (by omega),f2]
 have hDb:BD (K+1) (R+1) n (ups (ups V (0,R) (.hsl g'.nx 0 0 1 none)) (4,0) v1) (ups (ups E (0,R) (.sl 1 [[.int .i64 gr]])) (4,0) (.sl 1 (((List.range R).map fun i=>[V (0,i)])++[[.hsl g'.nx 0 0 1 none]]))) (ups Rt R [gr]) c F:=by
  refine ⟨fun i hi=>?_,fun q' i a1 a2 hi=>?_,?_,?_⟩
  ·rw[ups_ne _ _ (by simp)]
   by_cases e:i=R
   ·subst e;rw[ups_self,ups_self];exact ⟨rfl,by simp⟩
   ·rw[ups_ne _ _ (by simpa using e),ups_ne _ _ e];exact hDu.r i (by omega)
  ·rw[ups_ne _ _ (by simp;omega),ups_ne _ _ (by simp;omega)];exact hDu.f q' i a1 a2 hi
  ·rw[ups_self,List.range_succ,List.map_append]
   congr 2
   ·refine List.map_congr_left fun i hi=>?_
    have:=List.mem_range.1 hi
    rw[ups_ne _ _ (by simp),ups_ne _ _ (by simp;omega)]
   ·simp[ups_ne,ups_self]
  ·rw[ups_ne _ _ (by simp),ups_ne _ _ (by simp),hD.ns]
   refine congrArg (En.sl 4) (List.map_congr_left fun i hi=>?_)
   rw[ups_ne _ (k:=(4,0)) (j:=(1,i)) _ (by simp),ups_ne _ (k:=(4,0)) (j:=(2,i)) _ (by simp),ups_ne _ (k:=(4,0)) (j:=(3,i)) _ (by simp),ups_ne V (k:=(0,R)) (j:=(1,i)) _ (by simp),ups_ne V (k:=(0,R)) (j:=(2,i)) _ (by simp),ups_ne V (k:=(0,R)) (j:=(3,i)) _ (by simp)]
 obtain ⟨s1,s2,s3⟩:=hDb.sl hHb (by omega) (by omega) (by omega)
 rw[ups_self] at s1
 rw[ups_ne _ _ (by simp),ups_ne _ _ (by simp)] at s2
 simp only[sx,sy,SO.run,↓reduceIte,Nat.reduceEqDiff,Nat.reduceAdd,Nat.reduceLeDiff,h3,g1e,vca,vta]
 exact fin _ _ gr _ _ _ _ (by simp[sx,h3]) (by simp[sx,h4]) (by simp[H.get_put]) (by simp[H.get_put,g2e]) (s1.far fun i hi=>by simp[H.get_put];intro e;have:3≤i:=hi;omega) (s2.far fun i hi=>by simp[H.get_put];intro e;have:3≤i:=hi;omega) (s3 gr)
theorem bend9 {d K:Nat}{x:BendM}{gr:Int}{R n J:Nat}{Rt:Nat→List Int}{c:Nat→Int}{F:Nat→Nat→List Int}(hK:K≤1000000)(hR:R≤K)(hn:n≤K)(hJ:J<n){t:T}{g':G}{V:Ky→AV}{E:Ky→En}{Qk:QT}
  (h2:tat t 2=.hptr 0 0 0 0) (h3:tat t 3=.hptr 1 0 0 0) (h4:tat t 4=.hptr 2 0 0 0) (h5:tat t 5=V (4,0)) (h8:tat t 8=V (4,1)) (h11:tat t 11=rptr 4 (V (4,1)) J 0) (hH:Hp g' 3 (LB R n) V E)
  (f0:g'.h.get 0=.cells 4 [[u8v x.1,u8v x.2.1,u8v x.2.2.1,.int .i64 x.2.2.2]] 0 false false) (f1:g'.h.get 1=.cells 3 [[.int .i64 gr,V (4,0),V (4,1)]] 0 false false) (f2:g'.h.get 2=.cells 3 [[.int .i64 0,.nils,.nils]] 0 false false) (hD:BD K R n V E Rt c F)
  (fin:∀t g gr rv nv rts nds,tat t 3=.hptr 1 0 0 0→tat t 4=.hptr 2 0 0 0→g.h.get 1=.cells 3 [[.int .i64 gr,rv,nv]] 0 false false→g.h.get 2=.cells 3 [[.int .i64 0,.nils,.nils]] 0 false false→SlR P3 0 g.h rts rv→SlR P3 0 g.h nds nv→Bnd (K+1) ⟨gr,rts,nds⟩→Qk .norm t [] g) :
  wp C0 d none (.ops [o 230 (.mv (.t 8)),o 231 (.bsl 1 1 [.int .i64 0] [0] [.k (.int .i64 0)]),o 232 (.build [.int .i64 0,.nils,.nils,.nils] [(0,1),(3,1)] [.k (.int .i64 1),.t 231]),o 233 (.bsl 4 1 [.int .i64 0,.nils,.nils,.nils] [0] [.t 232]),o 234 (.app 4 80 (.t 230) (.t 233)),o 235 (.fad 2 (.t 3)),oz (.store 1 (.t 235) (.t 234))]) Qk t [] g':=by
 have o0:=hH.own (k:=(4,0)) (by simp[LB]) hD.rs
 have o1:=hH.own (k:=(4,1)) (by simp[LB]) hD.ns
 have hDu:=hD.up (show K≤K+1 by omega)
 have hn0:0<n:=by omega
 have ry1:rowy (V (4,1))=true:=rowy_of o1.rows (i:=0) (by simpa using hn0)
 have lrow:((List.range n).map fun i=>[AV.int .i64 (c i),V (1,i),V (2,i),V (3,i)]).length=n:=by simp
 have hrowJ:((List.range n).map fun i=>[AV.int .i64 (c i),V (1,i),V (2,i),V (3,i)])[J]?=some [AV.int .i64 (c J),V (1,J),V (2,J),V (3,J)]:=by simp[hJ]
 have hnx:=hH.nx
 simp only[sx,sy,SO.run,↓reduceIte,Nat.reduceEqDiff,Nat.reduceAdd,Nat.reduceLeDiff,h3,h8,f1]
 have hA:=(hH.add (k:=(3,n)) (L':=fun k=>LB R n k∨k=(3,n)) (g':=g'.new (.cells 1 [[.int .i64 0]] 0 false false)) (v':=.hsl g'.nx 0 0 1 none) (e':=.sl 1 [[.int .i64 0]]) (fun h=>lx_ne h 3 (by omega) (by omega) rfl) (own_one hnx _) (by simp) (fun i _ hi=>by rw[G.new_h,get_put_ne _ _ _ (by omega)]) (fun i hi=>by injection hi with hi;omega) (fun k hk=>hk))
 have hA2:=hA.add (k:=(2,n)) (L':=fun k=>LB R n k∨k=(3,n)∨k=(2,n)) (v':=.nils) (e':=.sl 1 []) (by rintro (h | h);exact lx_ne h 2 (by omega) (by omega) rfl;simp at h) (.inl ⟨rfl,rfl⟩) (Nat.le_refl _) (fun _ _ _=>rfl) (fun i hi=>by cases hi) (fun k hk=>by rcases hk with h | h | h;exact .inl (.inl h);exact .inl (.inr h);exact .inr h)
 have hA3:=hA2.add (k:=(1,n)) (L':=LB R (n+1)) (v':=.nils) (e':=.sl 1 []) (by rintro (h | h | h);exact lx_ne h 1 (by omega) (by omega) rfl;simp at h;simp at h) (.inl ⟨rfl,rfl⟩) (Nat.le_refl _) (fun _ _ _=>rfl) (fun i hi=>by cases hi) (fun k hk=>by
  rcases hk with h | ⟨a1,a2,a3⟩ | h
  ·exact .inl (.inl (.inl h))
  ·by_cases e:k.2=n
   ·have:k.1=1∨k.1=2∨k.1=3:=by omega
    rcases this with h | h | h
    ·exact .inr (Prod.ext h e)
    ·exact .inl (.inr (.inr (Prod.ext h e)))
    ·exact .inl (.inr (.inl (Prod.ext h e)))
   ·exact .inl (.inl (.inr (.inl ⟨a1,a2,by omega⟩)))
  ·exact .inl (.inl (.inr (.inr h))))
 have hB:=hA3.step (g':=(g'.new (.cells 1 [[.int .i64 0]] 0 false false)).new (.cells 4 [[.int .i64 1,.nils,.nils,.hsl g'.nx 0 0 1 none]] 0 false false)) (by simp) (fun i _ hi=>by rw[G.new_h,get_put_ne _ _ _ (by omega)])
 obtain ⟨V1,hV1⟩:∃V1,V1=ups (ups (ups V (3,n) (.hsl g'.nx 0 0 1 none)) (2,n) .nils) (1,n) .nils:=⟨_,rfl⟩
 obtain ⟨E1,hE1⟩:∃E1,E1=ups (ups (ups E (3,n) (.sl 1 [[.int .i64 0]])) (2,n) (.sl 1 [])) (1,n) (.sl 1 []):=⟨_,rfl⟩
 rw[←hV1,←hE1] at hB
 have old:∀k,LB R n k→V1 k=V k∧E1 k=E k:=fun k hk=>by
  rw[hV1,hE1,ups_ne _ _ (lx_ne hk 1 (by omega) (by omega)),ups_ne _ _ (lx_ne hk 2 (by omega) (by omega)),ups_ne _ _ (lx_ne hk 3 (by omega) (by omega)),ups_ne _ _ (lx_ne hk 1 (by omega) (by omega)),ups_ne _ _ (lx_ne hk 2 (by omega) (by omega)),ups_ne _ _ (lx_ne hk 3 (by omega) (by omega))]
  exact ⟨rfl,rfl⟩
 have n1:V1 (1,n)=.nils∧E1 (1,n)=.sl 1 []:=by rw[hV1,hE1];simp[ups_ne,ups_self]
 have n2:V1 (2,n)=.nils∧E1 (2,n)=.sl 1 []:=by rw[hV1,hE1];simp[ups_ne,ups_self]
 have n3:V1 (3,n)=.hsl g'.nx 0 0 1 none∧E1 (3,n)=.sl 1 [[.int .i64 0]]:=by rw[hV1,hE1];simp[ups_ne,ups_self]
 have e40:=old (4,0) (by simp[LB])
 have e41:=old (4,1) (by simp[LB])
 rw[←e41.1]
 refine hB.app (k:=(4,1)) (by simp[LB]) (by rw[e41.2];exact hD.ns) (new:=[[.int .i64 1,.nils,.nils,.hsl g'.nx 0 0 1 none]]) (by simp[sx,sy,H.get_put]) (by simp[room];omega) fun v1 gb hHb nb frb _ _ vca vta=>?_
 simp only[sx,sy] at nb frb
 have g1e:gb.h.get 1=.cells 3 [[.int .i64 gr,V (4,0),V (4,1)]] 0 false false:=by rw[frb 1 (by omega),if_neg (by omega),if_neg (by omega),f1]
 have g2e:gb.h.get 2=.cells 3 [[.int .i64 0,.nils,.nils]] 0 false false:=by rw[frb 2 (by omega),if_neg (by omega),if_neg (by omega),f2]
 have hDb:BD (K+1) R (n+1) (ups V1 (4,1) v1) (ups E1 (4,1) (.sl 4 (((List.range n).map fun i=>[.int .i64 (c i),V (1,i),V (2,i),V (3,i)])++[[.int .i64 1,.nils,.nils,.hsl g'.nx 0 0 1 none]]))) Rt (ups c n 1) (fun q=>ups (F q) n (if q=3 then [0] else [])):=by
  refine ⟨fun i hi=>?_,fun q' i a1 a2 hi=>?_,?_,?_⟩
  ·rw[ups_ne _ _ (by simp),(old (0,i) (.inl ⟨rfl,hi⟩)).2];exact hDu.r i hi
  ·rw[ups_ne _ _ (by simp;omega)]
   by_cases e:i=n
   ·subst e
    rw[ups_self]
    have:q'=1∨q'=2∨q'=3:=by omega
    rcases this with rfl | rfl | rfl
    ·exact ⟨n1.2,by simp⟩
    ·exact ⟨n2.2,by simp⟩
    ·exact ⟨n3.2,by simp⟩
   ·rw[ups_ne _ _ e,(old (q',i) (.inr (.inl ⟨a1,a2,by omega⟩))).2];exact hDu.f q' i a1 a2 (by omega)
  ·rw[ups_ne _ _ (by simp),e40.2,hD.rs]
   refine congrArg (En.sl 1) (List.map_congr_left fun i hi=>?_)
   have hi:=List.mem_range.1 hi
   rw[ups_ne _ _ (by simp),(old (0,i) (.inl ⟨rfl,hi⟩)).1]
  ·rw[ups_self,List.range_succ,List.map_append]
   congr 2
   ·refine List.map_congr_left fun i hi=>?_
    have hi:=List.mem_range.1 hi
    rw[ups_ne c _ (show i≠n by omega),ups_ne V1 (j:=(1,i)) _ (by simp),ups_ne V1 (j:=(2,i)) _ (by simp),ups_ne V1 (j:=(3,i)) _ (by simp),(old (1,i) (.inr (.inl ⟨by simp,by simp,hi⟩))).1,(old (2,i) (.inr (.inl ⟨by simp,by simp,hi⟩))).1,(old (3,i) (.inr (.inl ⟨by simp,by simp,hi⟩))).1]
   ·simp[ups_ne,ups_self,n1.1,n2.1,n3.1]
 obtain ⟨s1,s2,s3⟩:=hDb.sl hHb (by omega) (by omega) (by omega)
 rw[ups_self] at s2
 rw[ups_ne _ _ (by simp),e40.1] at s1
 simp only[sx,sy,SO.run,↓reduceIte,Nat.reduceEqDiff,Nat.reduceAdd,Nat.reduceLeDiff,h3,g1e,vca,vta]
 exact fin _ _ gr _ _ _ _ (by simp[sx,h3]) (by simp[sx,h4]) (by simp[H.get_put]) (by simp[H.get_put,g2e]) (s1.far fun i hi=>by simp[H.get_put];intro e;have:3≤i:=hi;omega) (s2.far fun i hi=>by simp[H.get_put];intro e;have:3≤i:=hi;omega) (s3 gr)
theorem slc_hiT {α:Type} [Rp α]{g:G}{b:Nat}{u:AV}{rows:List (List AV)}(hu:Own g b u (Rp.sz α) rows)(hne:rows≠[]){n:Nat}(hn:n≤rows.length) :
  ∃y,slcV (Rp.sz α) u none (some (.int .i64 (n:Int))) g=.val y∧(y.cells=[y]∧y.isTup=false)∧∀(P:Nat→Prop) (k:Nat) (l:List α),SlR P k g.h l u→SlR P k g.h (l.take n) y:=by
 rcases hu with ⟨rfl,rfl⟩ | ⟨id,ep,lo,h1,h2,rfl,h3⟩
 ·exact absurd rfl hne
 ·simp only[slcV,sliceA,h3,Nat.beq_refl,Bool.true_and,lenR_eq,Nat.zero_add,bif'_eq,Nat.ble_eq,Nat.le_refl,if_true,boundOf,Option.getD_none,Nat.sub_zero]
  simp only[natOf]
  rw[show bif' (n.ble rows.length) (some n) none=some n from by rw[bif'_eq,if_pos (by simpa using hn)]]
  dsimp only
  have hb:rows.length.beq 0=false:=by cases rows with | nil=>exact absurd rfl hne | cons a l=>rfl
  rw[hb]
  refine ⟨_,rfl,⟨rfl,rfl⟩,fun P k l h=>?_⟩
  obtain ⟨hl,hp,rr,q1,q2⟩:=h
  rw[rowsOf_hsl,h3,hslRows_all] at q1
  injection q1 with q1;subst q1
  refine ⟨by rw[List.length_take];omega,hp,rows.take n,?_,q2.take n⟩
  rw[rowsOf_hsl,h3,hslRows_cells,if_pos (by omega),List.drop_zero]
theorem bend10 {d K:Nat}{x:BendM}{gr:Int}{R n J:Nat}{Rt:Nat→List Int}{c:Nat→Int}{F:Nat→Nat→List Int}(hK:K≤1000000)(hR:R≤K)(hn:n≤K)(hJ:J<n){t:T}{g':G}{V:Ky→AV}{E:Ky→En}{Qk:QT}
  (h2:tat t 2=.hptr 0 0 0 0) (h3:tat t 3=.hptr 1 0 0 0) (h4:tat t 4=.hptr 2 0 0 0) (h5:tat t 5=V (4,0)) (h8:tat t 8=V (4,1)) (h11:tat t 11=rptr 4 (V (4,1)) J 0) (hH:Hp g' 3 (LB R n) V E)
  (f0:g'.h.get 0=.cells 4 [[u8v x.1,u8v x.2.1,u8v x.2.2.1,.int .i64 x.2.2.2]] 0 false false) (f1:g'.h.get 1=.cells 3 [[.int .i64 gr,V (4,0),V (4,1)]] 0 false false) (f2:g'.h.get 2=.cells 3 [[.int .i64 0,.nils,.nils]] 0 false false) (hD:BD K R n V E Rt c F)
  (fin:∀t g gr rv nv rts nds,tat t 3=.hptr 1 0 0 0→tat t 4=.hptr 2 0 0 0→g.h.get 1=.cells 3 [[.int .i64 gr,rv,nv]] 0 false false→g.h.get 2=.cells 3 [[.int .i64 0,.nils,.nils]] 0 false false→SlR P3 0 g.h rts rv→SlR P3 0 g.h nds nv→Bnd (K+1) ⟨gr,rts,nds⟩→Qk .norm t [] g) :
  wp C0 d none (.ops [o 97 (.mv (.t 8)),o 98 (.mv (.t 8)),o 99 (.len .slice (.t 98)),o 100 (.bin .sub (.t 99) (.k (.int .i64 1))),o 101 (.slc 4 (.t 97) [] [.t 100]),o 102 (.fad 2 (.t 3)),oz (.store 1 (.t 102) (.t 101))]) Qk t [] g':=by
 have o0:=hH.own (k:=(4,0)) (by simp[LB]) hD.rs
 have o1:=hH.own (k:=(4,1)) (by simp[LB]) hD.ns
 have hDu:=hD.up (show K≤K+1 by omega)
 have hn0:0<n:=by omega
 have ry1:rowy (V (4,1))=true:=rowy_of o1.rows (i:=0) (by simpa using hn0)
 have lrow:((List.range n).map fun i=>[AV.int .i64 (c i),V (1,i),V (2,i),V (3,i)]).length=n:=by simp
 have hrowJ:((List.range n).map fun i=>[AV.int .i64 (c i),V (1,i),V (2,i),V (3,i)])[J]?=some [AV.int .i64 (c J),V (1,J),V (2,J),V (3,J)]:=by simp[hJ]
 have hnx:=hH.nx
 have len1:=len_rows' o1.rows
 rw[lrow] at len1
 obtain ⟨s1,s2,s3⟩:=hDu.sl hH (by omega) (by omega) (by omega)
 have e1:((n:Int) - 1)=((n - 1:Nat):Int):=by omega
 simp only[sx,sy,SO.run,↓reduceIte,Nat.reduceEqDiff,Nat.reduceAdd,Nat.reduceLeDiff,h3,h8,f1,len1,wrap64 (show -9223372036854775808≤(n:Int) - 1 by omega) (show (n:Int) - 1<9223372036854775808 by omega),List.head?_nil,List.head?_cons]
 rw[e1]
 obtain ⟨y,q1,q2,q3⟩:=slc_hiT (α:=Mech) o1 (n:=n - 1) (by intro h;have:=congrArg List.length h;rw[lrow] at this;simp at this;omega) (by rw[lrow];omega)
 have q1:slcV 4 (V (4,1)) none (some (.int .i64 ((n - 1:Nat):Int))) g'=.val y:=q1
 simp only[sx,sy,SO.run,↓reduceIte,Nat.reduceEqDiff,Nat.reduceAdd,Nat.reduceLeDiff,q1,h3,f1,q2.1,q2.2]
 have s2':SlR P3 0 g'.h (((List.range n).map fun i=>(⟨c i,F 1 i,F 2 i,F 3 i⟩:Mech)).take (n - 1)) y:=q3 P3 0 _ s2
 exact fin _ _ gr _ _ _ _ (by simp[sx,h3]) (by simp[sx,h4]) (by simp[H.get_put]) (by simp[H.get_put,f2]) (s1.far fun i hi=>by simp[H.get_put];intro e;have:3≤i:=hi;omega) (s2'.far fun i hi=>by simp[H.get_put];intro e;have:3≤i:=hi;omega)
  ⟨(s3 gr).r,(s3 gr).rr,by have:=(s3 gr).n;simp at this ⊢;omega,fun x hx=>(s3 gr).f x (List.mem_of_mem_take hx)⟩
end
end Hx
end
section
namespace Hx
open Go
noncomputable section
theorem bk3 {d K:Nat}{x:BendM}{gr:Int}{a b:AV}{R n:Nat}{Rt:Nat→List Int}{c:Nat→Int}{F:Nat→Nat→List Int}(hK:K≤1000000)(hR:R≤K)(hn:n≤K){t:T}{g:G}{V:Ky→AV}{E:Ky→En}
  (ht:St t [(2,.hptr 0 0 0 0),(3,.hptr 1 0 0 0),(4,.hptr 2 0 0 0)]) (h5:tat t 5=V (4,0)) (h8:tat t 8=V (4,1)) (hH:Hp g 3 (LB R n) V E) (hB:BB g [u8v x.1,u8v x.2.1,u8v x.2.2.1,.int .i64 x.2.2.2] gr a b) (hD:BD K R n V E Rt c F) :
  wp C0 d none f_ref33_Bend_Of_k3 (fnQ C0 d [SR.cell true 3 4] fun v g'=>∃P,BendV (K+1) P 0 g'.h v) t [] g:=by
 obtain ⟨h2,h3,h4,-⟩:=ht
 obtain ⟨b0,b1,b2⟩:=hB
 have o0:=hH.own (k:=(4,0)) (by simp[LB]) hD.rs
 have o1:=hH.own (k:=(4,1)) (by simp[LB]) hD.ns
 have len1:=len_rows' o1.rows
 rw[List.length_map,List.length_range] at len1
 have hnx:=hH.nx
 have hfr:∀i,3≤i→((g.put 1 (.cells 3 [[.int .i64 gr,V (4,0),b]] 0 false false)).put 1 (.cells 3 [[.int .i64 gr,V (4,0),V (4,1)]] 0 false false)).h.get i=g.h.get i:=fun i hi=>by
  rw[G.put_h,get_put_ne _ _ _ (by omega),G.put_h,get_put_ne _ _ _ (by omega)]
 have hH:=hH.step (g':=(g.put 1 (.cells 3 [[.int .i64 gr,V (4,0),b]] 0 false false)).put 1 (.cells 3 [[.int .i64 gr,V (4,0),V (4,1)]] 0 false false)) (by simp) fun i hi _=>hfr i hi
 have f0:((g.put 1 (.cells 3 [[.int .i64 gr,V (4,0),b]] 0 false false)).put 1 (.cells 3 [[.int .i64 gr,V (4,0),V (4,1)]] 0 false false)).h.get 0=.cells 4 [[u8v x.1,u8v x.2.1,u8v x.2.2.1,.int .i64 x.2.2.2]] 0 false false:=by simp[H.get_put,b0]
 have f1:((g.put 1 (.cells 3 [[.int .i64 gr,V (4,0),b]] 0 false false)).put 1 (.cells 3 [[.int .i64 gr,V (4,0),V (4,1)]] 0 false false)).h.get 1=.cells 3 [[.int .i64 gr,V (4,0),V (4,1)]] 0 false false:=by simp[H.get_put]
 have f2:((g.put 1 (.cells 3 [[.int .i64 gr,V (4,0),b]] 0 false false)).put 1 (.cells 3 [[.int .i64 gr,V (4,0),V (4,1)]] 0 false false)).h.get 2=.cells 3 [[.int .i64 0,.nils,.nils]] 0 false false:=by simp[H.get_put,b2]
 simp only[f_ref33_Bend_Of_k3,sx,sy,SO.run,↓reduceIte,Nat.reduceEqDiff,Nat.reduceAdd,Nat.reduceLeDiff,h2,h3,h4,h5,h8,b1,len1,o0.cell.1,o0.cell.2,o1.cell.1,o1.cell.2]
 obtain ⟨g1,hg1⟩:∃g1,g1=(g.put 1 (.cells 3 [[.int .i64 gr,V (4,0),b]] 0 false false)).put 1 (.cells 3 [[.int .i64 gr,V (4,0),V (4,1)]] 0 false false):=⟨_,rfl⟩
 rw[←hg1] at hH f0 f1 f2 ⊢
 clear hfr hg1 b0 b1 b2
 have o1:=hH.own (k:=(4,1)) (by simp[LB]) hD.ns
 have hDu:=hD.up (show K≤K+1 by omega)
 refine bifP_mk (fun hb=>?_) (fun hb=>?_)
 ·simp only[sx,sy,SO.run,↓reduceIte,Nat.reduceEqDiff,Nat.reduceAdd,Nat.reduceLeDiff,h3,h4,f1,f2]
  obtain ⟨s1,s2,s3⟩:=hDu.sl hH (by omega) (by omega) (by omega)
  refine ⟨P3,_,s3 gr,_,rfl,?_⟩
  exact Rp.mono (P:=P3) (h:=g1.h) (rp_causal.2 ⟨_,_,rfl,s1,s2⟩) (fun i hi=>⟨hi,by rw[get_put_ne _ _ _ (by have:3≤i:=hi;omega)]⟩) (Nat.le_refl _)
 have hn0:0<n:=by simp at hb;omega
 have ry1:rowy (V (4,1))=true:=rowy_of o1.rows (i:=0) (by simpa using hn0)
 have at8:x.2.1.toNat<256:=x.2.1.toNat_lt
 have em:((x.2.1.toNat:Int) % (n:Int))=((x.2.1.toNat % n:Nat):Int):=by omega
 have hJ:x.2.1.toNat % n<n:=Nat.mod_lt _ hn0
 obtain ⟨J,hJe⟩:∃J,J=x.2.1.toNat % n:=⟨_,rfl⟩
 rw[←hJe] at em hJ
 have lrow:((List.range n).map fun i=>[AV.int .i64 (c i),V (1,i),V (2,i),V (3,i)]).length=n:=by simp
 rw[wp_skip,kS_norm]
 refine seq_cut (P:=fun t df g'=>df=[]∧g'=g1∧St t [(2,.hptr 0 0 0 0),(3,.hptr 1 0 0 0),(4,.hptr 2 0 0 0),(5,V (4,0)),(8,V (4,1)),(11,rptr 4 (V (4,1)) J 0)]) ?_ ?_
 ·simp only[sx,sy,SO.run,↓reduceIte,Nat.reduceEqDiff,Nat.reduceAdd,Nat.reduceLeDiff,h2,h3,h4,h5,h8,f0,len1,u8v,wrap64 (show -9223372036854775808≤(x.2.1.toNat:Int) by omega) (show (x.2.1.toNat:Int)<9223372036854775808 by omega),bin_rem .i64 (show (0:Int)≤(x.2.1.toNat:Int) by omega) (show 0<(n:Int) by omega),em,o1.rows,lrow,hJ,Option.isSome_some,Option.getD_some,St]
 clear h2 h3 h4 h5 h8
 rintro t df g' ⟨rfl,rfl,h2,h3,h4,h5,h8,h11,-⟩
 have w8:x.1.toNat<256:=x.1.toNat_lt
 have last:∀(t:T) (g:G) (gr:Int) (rv nv:AV) (rts:List (List Int)) (nds:List Mech),tat t 3=.hptr 1 0 0 0→tat t 4=.hptr 2 0 0 0→g.h.get 1=.cells 3 [[.int .i64 gr,rv,nv]] 0 false false→g.h.get 2=.cells 3 [[.int .i64 0,.nils,.nils]] 0 false false→SlR P3 0 g.h rts rv→SlR P3 0 g.h nds nv→Bnd (K+1) ⟨gr,rts,nds⟩ →
   kB 4 (kS (wp C0 d none f_ref33_Bend_Of_k2 (fnQ C0 d [SR.cell true 3 4] fun v g'=>∃P,BendV (K+1) P 0 g'.h v)) (fnQ C0 d [SR.cell true 3 4] fun v g'=>∃P,BendV (K+1) P 0 g'.h v)) .norm t [] g:=fun t g gr rv nv rts nds h3 h4 e1 e2 s1 s2 s3=>by
  rw[kB_norm,kS_norm]
  exact bk2 h3 h4 e1 e2 s1 s2 s3
 simp only[sx,sy,SO.run,↓reduceIte,Nat.reduceEqDiff,Nat.reduceAdd,Nat.reduceLeDiff,h2,f0,u8v,bin_rem .u8 (show (0:Int)≤(x.1.toNat:Int) by omega) (show (0:Int)<11 by decide)]
 refine bifP_mk (fun hb=>?_) (fun hb=>?_)
 ·exact bend0 hK hR hn hJ (by simp[sx,h2]) (by simp[sx,h3]) (by simp[sx,h4]) (by simp[sx,h5]) (by simp[sx,h8]) (by simp[sx,h11]) hH f0 f1 f2 hD last
 simp only[sx,sy,SO.run,↓reduceIte,Nat.reduceEqDiff,Nat.reduceAdd,Nat.reduceLeDiff]
 refine bifP_mk (fun hb=>?_) (fun hb=>?_)
 ·exact bend1 hK hR hn hJ (by simp[sx,h2]) (by simp[sx,h3]) (by simp[sx,h4]) (by simp[sx,h5]) (by simp[sx,h8]) (by simp[sx,h11]) hH f0 f1 f2 hD last
 simp only[sx,sy,SO.run,↓reduceIte,Nat.reduceEqDiff,Nat.reduceAdd,Nat.reduceLeDiff]
 refine bifP_mk (fun hb=>?_) (fun hb=>?_)
 ·exact bend2 hK hR hn hJ (by simp[sx,h2]) (by simp[sx,h3]) (by simp[sx,h4]) (by simp[sx,h5]) (by simp[sx,h8]) (by simp[sx,h11]) hH f0 f1 f2 hD last
 simp only[sx,sy,SO.run,↓reduceIte,Nat.reduceEqDiff,Nat.reduceAdd,Nat.reduceLeDiff]
 refine bifP_mk (fun hb=>?_) (fun hb=>?_)
 ·exact bend3 hK hR hn hJ (by simp[sx,h2]) (by simp[sx,h3]) (by simp[sx,h4]) (by simp[sx,h5]) (by simp[sx,h8]) (by simp[sx,h11]) hH f0 f1 f2 hD last
 simp only[sx,sy,SO.run,↓reduceIte,Nat.reduceEqDiff,Nat.reduceAdd,Nat.reduceLeDiff]
 refine bifP_mk (fun hb=>?_) (fun hb=>?_)
 ·exact bend4 hK hR hn hJ (by simp[sx,h2]) (by simp[sx,h3]) (by simp[sx,h4]) (by simp[sx,h5]) (by simp[sx,h8]) (by simp[sx,h11]) hH f0 f1 f2 hD last
 simp only[sx,sy,SO.run,↓reduceIte,Nat.reduceEqDiff,Nat.reduceAdd,Nat.reduceLeDiff]
 refine bifP_mk (fun hb=>?_) (fun hb=>?_)
 ·exact bend5 hK hR hn hJ (by simp[sx,h2]) (by simp[sx,h3]) (by simp[sx,h4]) (by simp[sx,h5]) (by simp[sx,h8]) (by simp[sx,h11]) hH f0 f1 f2 hD last
 simp only[sx,sy,SO.run,↓reduceIte,Nat.reduceEqDiff,Nat.reduceAdd,Nat.reduceLeDiff]
 refine bifP_mk (fun hb=>?_) (fun hb=>?_)
 ·exact bend6 hK hR hn hJ (by simp[sx,h2]) (by simp[sx,h3]) (by simp[sx,h4]) (by simp[sx,h5]) (by simp[sx,h8]) (by simp[sx,h11]) hH f0 f1 f2 hD last
 simp only[sx,sy,SO.run,↓reduceIte,Nat.reduceEqDiff,Nat.reduceAdd,Nat.reduceLeDiff]
 refine bifP_mk (fun hb=>?_) (fun hb=>?_)
 ·exact bend7 hK hR hn hJ (by simp[sx,h2]) (by simp[sx,h3]) (by simp[sx,h4]) (by simp[sx,h5]) (by simp[sx,h8]) (by simp[sx,h11]) hH f0 f1 f2 hD last
 simp only[sx,sy,SO.run,↓reduceIte,Nat.reduceEqDiff,Nat.reduceAdd,Nat.reduceLeDiff]
 refine bifP_mk (fun hb=>?_) (fun hb=>?_)
 ·exact bend8 hK hR hn hJ (by simp[sx,h2]) (by simp[sx,h3]) (by simp[sx,h4]) (by simp[sx,h5]) (by simp[sx,h8]) (by simp[sx,h11]) hH f0 f1 f2 hD last
 simp only[sx,sy,SO.run,↓reduceIte,Nat.reduceEqDiff,Nat.reduceAdd,Nat.reduceLeDiff]
 refine bifP_mk (fun hb=>?_) (fun hb=>?_)
 ·exact bend9 hK hR hn hJ (by simp[sx,h2]) (by simp[sx,h3]) (by simp[sx,h4]) (by simp[sx,h5]) (by simp[sx,h8]) (by simp[sx,h11]) hH f0 f1 f2 hD last
 exact bend10 hK hR hn hJ (by simp[sx,h2]) (by simp[sx,h3]) (by simp[sx,h4]) (by simp[sx,h5]) (by simp[sx,h8]) (by simp[sx,h11]) hH f0 f1 f2 hD last
theorem bendOf_ok {d K:Nat}{g:G}{x:BendM}{m:Causal}{v w:AV}(hd:0<d)(hx:Agg x NoP 0 g.h v)(hm:Agg m NoP 0 g.h w)(hb:Bnd K m)(hK:K≤1000000):∃r,callV C0 d N.ref33_Bend_Of [v,w] g=.val r∧BendV (K+1) NoP 0 .nil r:=by
 have e0:=agg_same d hx
 have e1:=agg_same d hm
 obtain ⟨cs,rfl,hc⟩:=hx
 have hc:=rp_bendM.1 hc
 subst hc
 obtain ⟨cs,rfl,hc⟩:=hm
 obtain ⟨a,b,rfl,hR,hN⟩:=rp_causal.1 hc
 rw[call_ref33_Bend_Of]
 refine iso_run eq_ref33_Bend_Of (xs:=[.agg [u8v x.1,u8v x.2.1,u8v x.2.2.1,.int .i64 x.2.2.2],.agg [.int .i64 m.grain,a,b]]) (by simp only[mapO,e0,e1]) (by simp[f_ref33_Bend_Of]) (snb_bend (K+1)) (by decide) hd ?_
 clear e0 e1 hc
 have hR:=hR.tree (h':=.nil) (Nat.le_refl _)
 have hN:=hN.tree (h':=.nil) (Nat.le_refl _)
 simp only[f_ref33_Bend_Of,sx,sy,SO.run,↓reduceIte,Nat.reduceEqDiff,Nat.reduceAdd,Nat.reduceLeDiff]
 obtain ⟨g0,hg0⟩:∃g0,g0=((G.empty.new (.cells 4 [[u8v x.1,u8v x.2.1,u8v x.2.2.1,.int .i64 x.2.2.2]] 0 false false)).new (.cells 3 [[.int .i64 m.grain,a,b]] 0 false false)).new (.cells 3 [[.int .i64 0,.nils,.nils]] 0 false false):=⟨_,rfl⟩
 rw[←hg0]
 have f0:BB g0 [u8v x.1,u8v x.2.1,u8v x.2.2.1,.int .i64 x.2.2.2] m.grain a b:=by rw[hg0];exact ⟨by simp[sx,H.get_put],by simp[sx,H.get_put],by simp[sx,H.get_put]⟩
 have f3:g0.nx=3:=by rw[hg0];simp[sx]
 clear hg0
 have hH:Hp g0 3 (LB 0 0) (fun _=>.nils) (fun k=>if k=(4,1) then .sl 4 [] else .sl 1 []) :=
  ⟨fun k _=>by by_cases e:k=(4,1);(· simp only[if_pos e];exact .inl ⟨rfl,rfl⟩);(· simp only[if_neg e];exact .inl ⟨rfl,rfl⟩),fun k l _ _ _ id h=>(by cases h),by omega⟩
 simp only[f_ref33_Bend_Of_r,sx,sy,SO.run,↓reduceIte,Nat.reduceEqDiff,Nat.reduceAdd,Nat.reduceLeDiff]
 refine m_bb0 (V:=fun _=>.nils) hR hK hb (by simp[St,sx]) (by simp[sx]) (by simp[sx]) hH f0 ⟨fun i hi=>by omega,fun q i _ _ hi=>by omega,by simp,by simp⟩ ?_ rfl
 clear hH
 rintro t g V E Rt ⟨h2,h3,h4,-⟩ h5 hH hB hD hV1
 simp only[f_ref33_Bend_Of_k4,sx,sy,SO.run,↓reduceIte,Nat.reduceEqDiff,Nat.reduceAdd,Nat.reduceLeDiff]
 refine m_bb1 hN hK hb hb.r (by simp[St,sx,h2,h3,h4]) (by simp[sx,h5]) (by simp[sx,hV1]) (by simp[sx]) hH hB hD ?_
 clear h2 h3 h4 h5 hH hB hD
 intro t g V E c F ht h5 h8 hH hB hD
 simp only[sx,sy,SO.run,↓reduceIte,Nat.reduceEqDiff,Nat.reduceAdd,Nat.reduceLeDiff]
 exact bk3 hK hb.r hb.n ht h5 h8 hH hB hD
end
end Hx
end
section
namespace Hx
open Go
noncomputable section
theorem made_len {m:Causal}(h:Made m):(1≤m.nodes.length∧m.nodes.length≤4)∧(∀x∈m.nodes,x.card=2∨x.card=3)∧Bnd 20000 m:=by
 obtain ⟨e,c,R,F,N,O,num,rfl,hn,hg,hF,hR,hN,hlt,hinj,hsur,hnd⟩:=h.ex
 refine ⟨by simpa [mkM] using hn,fun x hx=>?_,?_⟩
 ·obtain ⟨i,hi,rfl⟩:=List.mem_map.1 hx
  exact hF.card i (List.mem_range.1 hi)
 ·refine ⟨by show R.length≤_;omega,fun r hr=>?_,by simp[mkM];omega,fun x hx=>?_⟩
  ·obtain ⟨q,z,-,-,-,rfl⟩:=hF.roots r hr
   have:=weights_len e.gr q z
   omega
  ·obtain ⟨i,hi,rfl⟩:=List.mem_map.1 hx
   have hi:=List.mem_range.1 hi
   obtain ⟨k,hk,rfl⟩:=hsur i hi
   refine ⟨by have:=(hnd k hk).len;show (F (num k)).length≤_;omega,by have:=hN (num k);show (N (num k)).length≤_;omega,?_⟩
   show (O (num k)).length≤_
   rw[(hnd k hk).outs]
   refine Nat.le_trans allF_len ?_
   have hb:=szs_bound hF (hnd k hk).places (hF.inc _ hi)
   have:=prod_bound (l:=szs c R (F (num k)) (N (num k))) fun y hy=>by have:=hb y hy;omega
   have hl4:(szs c R (F (num k)) (N (num k))).length≤7:=by have:=(hnd k hk).len;have:=hN (num k);simp[szs];omega
   have:=pow4_mono hl4
   have:(4:Int) ^ 7=16384:=by decide
   omega
def ModelsV:VS:=fun P k h v=>∃m1 m2 m3,Bnd 30000 m1∧Bnd 30000 m2∧Bnd 30000 m3∧Agg ((m1,m2,m3):Causal×Causal×Causal) P k h v
theorem snb_models:Snb ModelsV 1:=by
 refine ⟨fun {P k h v n} d r hn=>?_,fun {k h v n} r hn=>?_⟩
 ·obtain ⟨m1,m2,m3,a,b,c,r⟩:=r
  obtain ⟨v',e,r'⟩:=(snb_agg ((m1,m2,m3):Causal×Causal×Causal)).snap d r hn
  exact ⟨v',e,m1,m2,m3,a,b,c,r'⟩
 ·obtain ⟨m1,m2,m3,a,b,c,r⟩:=r
  exact (snb_agg ((m1,m2,m3):Causal×Causal×Causal)).tag r hn
theorem Bnd.up {K K':Nat}{m:Causal}(h:Bnd K m)(hk:K≤K'):Bnd K' m :=
 ⟨by have:=h.r;omega,fun x hx=>by have:=h.rr x hx;omega,by have:=h.n;omega,fun x hx=>by have:=h.f x hx;omega⟩
theorem models_ok {d:Nat}{g:G}{x:DraftM}{y z:BendM}{u v w:AV}(hd:0<d)(hx:Agg x NoP 0 g.h u)(hy:Agg y NoP 0 g.h v)(hz:Agg z NoP 0 g.h w) :
  ∃r,callV C0 d N.law33_models [u,v,w] g=.val r∧ModelsV NoP 0 .nil r:=by
 have e0:=agg_same d hx
 have e1:=agg_same d hy
 have e2:=agg_same d hz
 have hx':∀h,Agg x NoP 0 h u:=fun h=>by obtain ⟨cs,rfl,q⟩:=hx;exact ⟨cs,rfl,Rp.tree q (Nat.le_refl _)⟩
 have hy':∀h,Agg y NoP 0 h v:=fun h=>by obtain ⟨cs,rfl,q⟩:=hy;exact ⟨cs,rfl,Rp.tree q (Nat.le_refl _)⟩
 have hz':∀h,Agg z NoP 0 h w:=fun h=>by obtain ⟨cs,rfl,q⟩:=hz;exact ⟨cs,rfl,Rp.tree q (Nat.le_refl _)⟩
 rw[call_law33_models]
 refine iso_run eq_law33_models (xs:=[u,v,w]) (by simp only[mapO,e0,e1,e2]) (by simp[f_law33_models]) snb_models (by decide) hd ?_
 obtain ⟨xs,rfl,qx⟩:=hx
 obtain ⟨ys,rfl,qy⟩:=hy
 obtain ⟨zs,rfl,qz⟩:=hz
 obtain ⟨a1,a2,a3,a4,rfl,-⟩:=rp_draftM.1 qx
 have qy:=rp_bendM.1 qy
 have qz:=rp_bendM.1 qz
 subst qy;subst qz
 simp only[f_law33_models,f_law33_models_r,sx,sy,sf,SO.run,↓reduceIte,Nat.reduceEqDiff,Nat.reduceAdd,Nat.reduceLeDiff]
 refine sat_ex (model_ok (Nat.succ_pos d) (hx' _)) fun r1 hr1=>?_
 obtain ⟨m1,hm1,cs1,rfl,q1⟩:=hr1
 obtain ⟨b1,b2,rfl,b3,b4⟩:=rp_causal.1 q1
 have hm1':∀h,Agg m1 NoP 0 h (.agg [.int .i64 m1.grain,b1,b2]):=fun h=>⟨_,rfl,Rp.tree q1 (Nat.le_refl _)⟩
 have hb1:=(made_len hm1).2.2
 simp only[sx,sy,sf,SO.run,↓reduceIte,Nat.reduceEqDiff,Nat.reduceAdd,Nat.reduceLeDiff]
 refine sat_ex (bendOf_ok (Nat.succ_pos d) (hy' _) (hm1' _) hb1 (by omega)) fun r2 hr2=>?_
 simp only[sx,sy,sf,SO.run,↓reduceIte,Nat.reduceEqDiff,Nat.reduceAdd,Nat.reduceLeDiff]
 refine sat_ex (bendOf_ok (Nat.succ_pos d) (hy' _) (hm1' _) hb1 (by omega)) fun r3 hr3=>?_
 obtain ⟨m3,hm3,c3,rfl,q3⟩:=hr3
 have hm3':∀h,Agg m3 NoP 0 h (.agg c3):=fun h=>⟨_,rfl,Rp.tree q3 (Nat.le_refl _)⟩
 simp only[sx,sy,sf,SO.run,↓reduceIte,Nat.reduceEqDiff,Nat.reduceAdd,Nat.reduceLeDiff]
 refine sat_ex (bendOf_ok (Nat.succ_pos d) (hz' _) (hm3' _) hm3 (by omega)) fun r4 hr4=>?_
 obtain ⟨m2,hm2,c2,rfl,q2⟩:=hr2
 obtain ⟨m4,hm4,c4,rfl,q4⟩:=hr4
 obtain ⟨d1,d2,rfl,d3,d4⟩:=rp_causal.1 q2
 obtain ⟨f1,f2,rfl,f3,f4⟩:=rp_causal.1 q4
 simp only[sx,sy,sf,SO.run,↓reduceIte,Nat.reduceEqDiff,Nat.reduceAdd,Nat.reduceLeDiff,foot_ref33_Bend_Of]
 refine ⟨?_,?_⟩
 ·simp only[List.reverse_cons,List.reverse_nil,List.nil_append,List.cons_append]
  exact footsOk_mk [false,false,false,false,false,false,false,false,false,false,true] [] (by simp[All2,rdLook,noLook,bigLook]) (by decide) (by simp)
 ·refine ⟨NoP,m1,m2,m4,hb1.up (by omega),hm2.up (by omega),hm4.up (by omega),_,rfl,?_⟩
  exact ⟨_,_,rfl,Rp.tree q1 (Nat.le_refl _),_,_,rfl,Rp.tree q2 (Nat.le_refl _),Rp.tree q4 (Nat.le_refl _)⟩
end
end Hx
end
section
namespace Hx
open Go
noncomputable section
def ElsX (p:Nat)(g:G)(b:Nat)(v:AV):Nat→Prop:=fun i=>b≤i∧i<g.nx∧i≠p∧vid v≠some i
def OwnX {α:Type} [Rp α](p:Nat)(g:G)(b:Nat)(k:Nat)(v:AV)(l:List α):Prop:=vid v≠some p∧∃rows,Own g b v (Rp.sz α) rows∧All2 (Rp.rp (ElsX p g b v) k g.h) l rows
section
variable {α:Type} [Rp α]{p:Nat}{g g':G}{b k:Nat}{v:AV}{l:List α}
theorem OwnX.sl (h:OwnX p g b k v l)(hl:l.length<9223372036854775808):SlR (fun i=>b≤i∧i<g.nx∧i≠p) k g.h l v:=by
 obtain ⟨h0,rows,h1,h2⟩:=h
 exact Own.sl h1 hl (h2.mono fun x cs r=>Rp.mono r (fun i hi=>⟨⟨hi.1,hi.2.1,hi.2.2.1⟩,rfl⟩) (Nat.le_refl _)) fun i hi=>⟨(h1.lt hi).1,(h1.lt hi).2,fun e=>h0 (by rw[hi,e])⟩
theorem OwnX.fr (h:OwnX p g b k v l)(hn:g.nx≤g'.nx)(hf:∀i,b≤i→i<g.nx→i≠p→g'.h.get i=g.h.get i):OwnX p g' b k v l:=by
 obtain ⟨h0,rows,h1,h2⟩:=h
 exact ⟨h0,rows,h1.fr hn fun i hi=>hf i (h1.lt hi).1 (h1.lt hi).2 (fun e=>h0 (by rw[hi,e])),h2.mono fun x cs r=>Rp.mono r (fun i hi=>⟨⟨hi.1,Nat.lt_of_lt_of_le hi.2.1 hn,hi.2.2⟩,hf i hi.1 hi.2.1 hi.2.2.1⟩) (Nat.le_refl _)⟩
theorem OwnX.step (h:OwnX p g b k v l)(f:Fr g g'):OwnX p g' b k v l:=h.fr f.1 fun i _ hi _=>f.2 i hi
theorem OwnX.lt (h:OwnX p g b k v l){i:Nat}(hi:vid v=some i):b≤i∧i<g.nx:=by obtain ⟨-,rows,h1,-⟩:=h;exact h1.lt hi
theorem OwnX.cell (h:OwnX p g b k v l):v.cells=[v]∧v.isTup=false:=by obtain ⟨-,rows,h1,-⟩:=h;exact h1.cell
theorem OwnX.len (h:OwnX p g b k v l)(g0:G):lenF .slice v g0=.val (.int .i64 (l.length:Int)):=by
 obtain ⟨-,rows,h1,h2⟩:=h
 rw[len_rows' h1.rows,h2.len]
theorem OwnT.x (h:OwnT g b k v l)(hn:g.nx≤g'.nx)(hp:g.nx≤p)(hf:∀i,b≤i→i<g.nx→g'.h.get i=g.h.get i):OwnX p g' b k v l:=by
 obtain ⟨rows,h1,h2⟩:=h
 exact ⟨fun e=>by have:=(h1.lt e).2;omega,rows,h1.fr hn fun i hi=>hf i (h1.lt hi).1 (h1.lt hi).2,h2.mono fun x cs r=>Rp.mono r (fun i hi=>⟨⟨hi.1,Nat.lt_of_lt_of_le hi.2.1 hn,by have:=hi.2.1;omega,hi.2.2⟩,hf i hi.1 hi.2.1⟩) (Nat.le_refl _)⟩
theorem append_ownX {x:AV}{y:α}{cs:List AV}{bytes:Nat}{K:AV→G→Prop}{D:ADf→Prop}(hv:OwnX p g b k v l)(hx:rowsOf g.h (Rp.sz α) x=some [cs])(hy:Rp.rp (ElsX p g b v) k g.h y cs)(hb:b≤g.nx)(hp:p<g.nx)
  (hr:(l.length+1)*bytes≤room)
  (kk:∀v' g',OwnX p g' b k v' (l++[y])→g.nx≤g'.nx→(∀i,i<g.nx→vid v≠some i→g'.h.get i=g.h.get i)→(vid v'=vid v∨∃i,vid v'=some i∧g.nx≤i)→(∀i∈g'.lg,i∈g.lg∨b≤i)→K v' g') :
  (appendA (Rp.sz α) bytes v x g).sat K g D:=by
 obtain ⟨h0,rows,h1,h2⟩:=hv
 refine append_own (new:=[cs]) h1 hx hb (by rw[←h2.len];exact hr) fun v' g' hv' hn hf hvid hlg=>kk v' g' ⟨fun e=>?_,rows++[cs],hv',?_⟩ hn hf hvid hlg
 ·rcases hvid with h | ⟨i,h,hi⟩
  ·rw[h] at e;exact h0 e
  ·rw[h] at e;injection e;omega
 have up:∀(z:α) (c:List AV),Rp.rp (ElsX p g b v) k g.h z c→Rp.rp (ElsX p g' b v') k g'.h z c:=fun z c r=>Rp.mono r (fun i hi=>⟨⟨hi.1,Nat.lt_of_lt_of_le hi.2.1 hn,hi.2.2.1,fun e=>by
  rcases hvid with e2 | ⟨j,e2,hj⟩
  ·rw[e2] at e;exact hi.2.2.2 e
  ·rw[e2] at e;injection e with e;subst e;have:=hi.2.1;omega⟩,hf i hi.2.1 hi.2.2.2⟩) (Nat.le_refl _)
 exact (h2.mono up).append ⟨up y cs hy,trivial⟩
end
def S.rowsTo (gr:Int)(card:Nat)(ab be:Nat)(out:List Int)(j:Nat):List (List Int):=(List.range j).flatMap fun j=>(List.range ab).map fun i=>S.row gr card (out[i*be+j]?.getD 0).toNat
def S.nodeOf (gr:Int)(ab be:Nat)(first a:Int)(x:Mech):Node :=
 if 0≤a then ⟨x.card,[],[S.row gr x.card.toNat a.toNat]⟩ else ⟨x.card,x.noise++x.frm.map (first+·),S.rowsTo gr x.card.toNat ab be x.out be⟩
def S.copyAt (m:Causal)(first:Int)(act:List Int)(i:Nat):Node :=
 S.nodeOf m.grain (S.above m (m.nodes[i]?.getD ⟨0,[],[],[]⟩)).toNat (S.beside m (m.nodes[i]?.getD ⟨0,[],[],[]⟩)).toNat first (act[i]?.getD 0) (m.nodes[i]?.getD ⟨0,[],[],[]⟩)
def S.copyTo (m:Causal)(first:Int)(act:List Int)(j:Nat):List Node:=(List.range j).map (S.copyAt m first act)
def S.copy (m:Causal)(first:Int)(act:List Int):List Node:=S.copyTo m first act m.nodes.length
theorem made49 {d p k0 q b:Nat}{act w bb:AV}{gr card first:Int}{nb jj:Int}{nds:List Node}{ps:List Int}{rws:List (List Int)}{rr:List (List AV)}{Q:QT}{t:T}{g g0:G}{V:Nat→AV}{E:Nat→En}{L:Nat→Prop}
  (ht:St t [(1,.hptr p 0 0 0),(2,act),(3,.hptr k0 0 0 0),(6,.int .i64 first),(9,V 0),(23,bb),(24,.int .i64 nb),(25,.int .i64 jj)]) (hfr:Fr g0 g) (hH:Hp g q L V E) (hq:g0.nx=q) (L0:L 0) (L1:L 1) (L2:L 2)
  (e0:E 0=.bx [.int .i64 card,V 1,V 2]) (e1:E 1=.sl 1 (ps.map ci)) (e2:E 2=.sl 1 rr) (hrr:All2 (Rp.rp NoP 0 .nil) rws rr) (hps:ps.length<1000000) (hrw:rws.length≤1000000000) (hW:OwnX p g0 b 0 w nds) (hnl:nds.length≤1000000)
  (hp:g0.h.get p=.cells 2 [[.int .i64 gr,w]] 0 false false) (hpq:p<q) (hbq:b≤q)
  (kk:∀t' g' w',St t' [(1,.hptr p 0 0 0),(2,act),(3,.hptr k0 0 0 0),(6,.int .i64 first),(9,V 0),(23,bb),(24,.int .i64 nb),(25,.int .i64 jj)]→g'.h.get p=.cells 2 [[.int .i64 gr,w']] 0 false false→OwnX p g' b 0 w' (nds++[⟨card,ps,rws⟩]) →
   (∀i,i<q→i≠p→vid w≠some i→g'.h.get i=g0.h.get i)→q≤g'.nx→(vid w'=vid w∨∃i,vid w'=some i∧q≤i)→Q .norm t' [] g'):wp C0 d none (.feet [0,0,2,6,14,0,32,126,255,511,1023] [o 49 (.mv (.t 1)),o 50 (.mv (.t 1)),o 51 (.nilc (.t 50)),o 52 (.fad 1 (.t 51)),o 53 (.load false 1 (.t 52)),o 54 (.load true 3 (.t 9)),o 55 (.bsl 3 1 [.int .i64 0,.nils,.nils] [0] [.t 54]),o 56 (.app 3 56 (.t 53) (.t 55)),o 57 (.nilc (.t 49)),o 58 (.fad 1 (.t 57)),oz (.store 1 (.t 58) (.t 56))]) Q t [] g:=by
 obtain ⟨h1,h2,h3,h6,h9,h23,h24,h25,-⟩:=ht
 obtain ⟨i9,p1,p2,p3,p4⟩:=hH.box L0 e0
 rw[p3] at h9 kk
 have p4:g.h.get i9=.cells 3 [[.int .i64 card,V 1,V 2]] 0 false false:=p4
 have hpg:g.h.get p=.cells 2 [[.int .i64 gr,w]] 0 false false:=by rw[hfr.2 p (by omega),hp]
 have hWg:=hW.step hfr
 have hwlt:∀i,vid w=some i→b≤i∧i<q:=fun i hi=>by have:=hW.lt hi;omega
 have o1:=hH.own L1 e1
 have o2:=hH.own L2 e2
 have hn:=hfr.1
 simp only[sx,sy,sf,SO.run,↓reduceIte,Nat.reduceEqDiff,Nat.reduceAdd,Nat.reduceLeDiff,h1,h9,hpg,p4,nilc_hptr]
 have hy:∀(ga:G),(∀i,i<g.nx→ga.h.get i=g.h.get i)→g.nx≤ga.nx→Rp.rp (ElsX p ga b w) 0 ga.h (⟨card,ps,rws⟩:Node) [.int .i64 card,V 1,V 2]:=fun ga hf hnx=>by
  have hp3:∀{j:Nat} {sz:Nat} {rows:List (List AV)},Own g q (V j) sz rows→∀i,vid (V j)=some i→ElsX p ga b w i:=fun h i hi=>by
   have:=h.lt hi
   exact ⟨by omega,by omega,by omega,fun e=>by have:=hwlt i e;omega⟩
  have oa1:=o1.fr hnx fun i hi=>hf i (o1.lt hi).2
  have oa2:=o2.fr hnx fun i hi=>hf i (o2.lt hi).2
  exact rp_node.2 ⟨V 1,V 2,rfl,Own.sl (α:=Int) oa1 (by show ps.length<_;omega) (All2.of_map (fun a=>rp_int.2 rfl) _) (hp3 o1),Own.sl (α:=List Int) oa2 (by show rws.length<_;omega) (hrr.mono fun a c r=>Rp.tree r (Nat.le_refl _)) (hp3 o2)⟩
 refine append_ownX (p:=p) (α:=Node) (b:=b) (k:=0) (l:=nds) (y:=⟨card,ps,rws⟩) (cs:=[.int .i64 card,V 1,V 2]) (hWg.step (Fr.trans (g':=?ga) ?fr1 ?fr2)) (by simp[sy,H.get_put,Rp.sz]) (hy _ (fun i hi=>?_) (by simp;omega)) (by simp;omega) (by simp;omega) (by simp[room];omega) fun w' g1 hw' n1 f1 vid1 lg1=>?_
 case ga=>exact g
 case fr1=>exact Fr.refl _
 case fr2=>exact ⟨by simp;omega,fun i hi=>by simp[H.get_put];omega⟩
 ·simp[H.get_put];omega
 simp only[sx,sy] at n1 f1 vid1 lg1
 have hp1:g1.h.get p=.cells 2 [[.int .i64 gr,w]] 0 false false:=by
  rw[f1 p (by omega) hW.1,if_neg (by omega),hpg]
 simp only[sx,sy,sf,SO.run,↓reduceIte,Nat.reduceEqDiff,Nat.reduceAdd,Nat.reduceLeDiff,h1,h9,hp1,nilc_hptr,hw'.cell.1,hw'.cell.2]
 refine ⟨?_,?_⟩
 ·simp only[List.reverse_cons,List.reverse_nil,List.nil_append,List.cons_append]
  refine footsOk_mk [false,false,false,false,false,false,true,true,false,false,true] [(0,6),(1,6),(2,6),(3,6),(4,6),(0,7)] (by simp[All2,rdLook,noLook,bigLook]) (by decide) ?_
  rintro p hp x y hx hy
  simp only[List.mem_cons,List.not_mem_nil,or_false] at hp
  rcases hp with rfl | rfl | rfl | rfl | rfl | rfl<;>(simp at hx hy;subst hx;subst hy;refine apart_mk rfl rfl rfl rfl ?_ ?_ ?_<;>simp[rdLook,noLook,refIds]<;>omega)
 ·refine kk _ _ w' (by simp[St,sx,h1,h2,h3,h6,h9,h23,h24,h25]) (by simp[H.get_put]) (hw'.fr (by simp;omega) fun i hi _ hne=>by simp[H.get_put];intro e;exact absurd e hne) (fun i hi hne hnv=>?_) (by simp;omega) ?_
  ·simp only[sx,sy,sf,SO.run,↓reduceIte,Nat.reduceEqDiff,Nat.reduceAdd,Nat.reduceLeDiff]
   rw[if_neg hne,f1 i (by omega) hnv,if_neg (by omega),hfr.2 i (by omega)]
  ·rcases vid1 with h | ⟨i,h,hi⟩
   ·exact .inl h
   ·exact .inr ⟨i,h,by omega⟩
theorem made116 {d p k0 q b:Nat}{act w bb:AV}{gr card first:Int}{nb jj:Int}{nds:List Node}{ps:List Int}{rws:List (List Int)}{rr:List (List AV)}{Q:QT}{t:T}{g g0:G}{V:Nat→AV}{E:Nat→En}{L:Nat→Prop}
  (ht:St t [(1,.hptr p 0 0 0),(2,act),(3,.hptr k0 0 0 0),(6,.int .i64 first),(9,V 0),(23,bb),(24,.int .i64 nb),(25,.int .i64 jj)]) (hfr:Fr g0 g) (hH:Hp g q L V E) (hq:g0.nx=q) (L0:L 0) (L1:L 1) (L2:L 2)
  (e0:E 0=.bx [.int .i64 card,V 1,V 2]) (e1:E 1=.sl 1 (ps.map ci)) (e2:E 2=.sl 1 rr) (hrr:All2 (Rp.rp NoP 0 .nil) rws rr) (hps:ps.length<1000000) (hrw:rws.length≤1000000000) (hW:OwnX p g0 b 0 w nds) (hnl:nds.length≤1000000)
  (hp:g0.h.get p=.cells 2 [[.int .i64 gr,w]] 0 false false) (hpq:p<q) (hbq:b≤q)
  (kk:∀t' g' w',St t' [(1,.hptr p 0 0 0),(2,act),(3,.hptr k0 0 0 0),(6,.int .i64 first),(9,V 0),(23,bb),(24,.int .i64 nb),(25,.int .i64 jj)]→g'.h.get p=.cells 2 [[.int .i64 gr,w']] 0 false false→OwnX p g' b 0 w' (nds++[⟨card,ps,rws⟩]) →
   (∀i,i<q→i≠p→vid w≠some i→g'.h.get i=g0.h.get i)→q≤g'.nx→(vid w'=vid w∨∃i,vid w'=some i∧q≤i)→Q .norm t' [] g'):wp C0 d none (.feet [0,0,2,6,14,0,32,126,255,511,1023] [o 116 (.mv (.t 1)),o 117 (.mv (.t 1)),o 118 (.nilc (.t 117)),o 119 (.fad 1 (.t 118)),o 120 (.load false 1 (.t 119)),o 121 (.load true 3 (.t 9)),o 122 (.bsl 3 1 [.int .i64 0,.nils,.nils] [0] [.t 121]),o 123 (.app 3 56 (.t 120) (.t 122)),o 124 (.nilc (.t 116)),o 125 (.fad 1 (.t 124)),oz (.store 1 (.t 125) (.t 123))]) Q t [] g:=by
 obtain ⟨h1,h2,h3,h6,h9,h23,h24,h25,-⟩:=ht
 obtain ⟨i9,p1,p2,p3,p4⟩:=hH.box L0 e0
 rw[p3] at h9 kk
 have p4:g.h.get i9=.cells 3 [[.int .i64 card,V 1,V 2]] 0 false false:=p4
 have hpg:g.h.get p=.cells 2 [[.int .i64 gr,w]] 0 false false:=by rw[hfr.2 p (by omega),hp]
 have hWg:=hW.step hfr
 have hwlt:∀i,vid w=some i→b≤i∧i<q:=fun i hi=>by have:=hW.lt hi;omega
 have o1:=hH.own L1 e1
 have o2:=hH.own L2 e2
 have hn:=hfr.1
 simp only[sx,sy,sf,SO.run,↓reduceIte,Nat.reduceEqDiff,Nat.reduceAdd,Nat.reduceLeDiff,h1,h9,hpg,p4,nilc_hptr]
 have hy:∀(ga:G),(∀i,i<g.nx→ga.h.get i=g.h.get i)→g.nx≤ga.nx→Rp.rp (ElsX p ga b w) 0 ga.h (⟨card,ps,rws⟩:Node) [.int .i64 card,V 1,V 2]:=fun ga hf hnx=>by
  have hp3:∀{j:Nat} {sz:Nat} {rows:List (List AV)},Own g q (V j) sz rows→∀i,vid (V j)=some i→ElsX p ga b w i:=fun h i hi=>by
   have:=h.lt hi
   exact ⟨by omega,by omega,by omega,fun e=>by have:=hwlt i e;omega⟩
  have oa1:=o1.fr hnx fun i hi=>hf i (o1.lt hi).2
  have oa2:=o2.fr hnx fun i hi=>hf i (o2.lt hi).2
  exact rp_node.2 ⟨V 1,V 2,rfl,Own.sl (α:=Int) oa1 (by show ps.length<_;omega) (All2.of_map (fun a=>rp_int.2 rfl) _) (hp3 o1),Own.sl (α:=List Int) oa2 (by show rws.length<_;omega) (hrr.mono fun a c r=>Rp.tree r (Nat.le_refl _)) (hp3 o2)⟩
 refine append_ownX (p:=p) (α:=Node) (b:=b) (k:=0) (l:=nds) (y:=⟨card,ps,rws⟩) (cs:=[.int .i64 card,V 1,V 2]) (hWg.step (Fr.trans (g':=?ga) ?fr1 ?fr2)) (by simp[sy,H.get_put,Rp.sz]) (hy _ (fun i hi=>?_) (by simp;omega)) (by simp;omega) (by simp;omega) (by simp[room];omega) fun w' g1 hw' n1 f1 vid1 lg1=>?_
 case ga=>exact g
 case fr1=>exact Fr.refl _
 case fr2=>exact ⟨by simp;omega,fun i hi=>by simp[H.get_put];omega⟩
 ·simp[H.get_put];omega
 simp only[sx,sy] at n1 f1 vid1 lg1
 have hp1:g1.h.get p=.cells 2 [[.int .i64 gr,w]] 0 false false:=by
  rw[f1 p (by omega) hW.1,if_neg (by omega),hpg]
 simp only[sx,sy,sf,SO.run,↓reduceIte,Nat.reduceEqDiff,Nat.reduceAdd,Nat.reduceLeDiff,h1,h9,hp1,nilc_hptr,hw'.cell.1,hw'.cell.2]
 refine ⟨?_,?_⟩
 ·simp only[List.reverse_cons,List.reverse_nil,List.nil_append,List.cons_append]
  refine footsOk_mk [false,false,false,false,false,false,true,true,false,false,true] [(0,6),(1,6),(2,6),(3,6),(4,6),(0,7)] (by simp[All2,rdLook,noLook,bigLook]) (by decide) ?_
  rintro p hp x y hx hy
  simp only[List.mem_cons,List.not_mem_nil,or_false] at hp
  rcases hp with rfl | rfl | rfl | rfl | rfl | rfl<;>(simp at hx hy;subst hx;subst hy;refine apart_mk rfl rfl rfl rfl ?_ ?_ ?_<;>simp[rdLook,noLook,refIds]<;>omega)
 ·refine kk _ _ w' (by simp[St,sx,h1,h2,h3,h6,h9,h23,h24,h25]) (by simp[H.get_put]) (hw'.fr (by simp;omega) fun i hi _ hne=>by simp[H.get_put];intro e;exact absurd e hne) (fun i hi hne hnv=>?_) (by simp;omega) ?_
  ·simp only[sx,sy,sf,SO.run,↓reduceIte,Nat.reduceEqDiff,Nat.reduceAdd,Nat.reduceLeDiff]
   rw[if_neg hne,f1 i (by omega) hnv,if_neg (by omega),hfr.2 i (by omega)]
  ·rcases vid1 with h | ⟨i,h,hi⟩
   ·exact .inl h
   ·exact .inr ⟨i,h,by omega⟩
structure AS (q i8 i9:Nat) (card:Int) (fa fb fc:AV) (g0 g:G) (V:Nat→AV) (E:Nat→En) (ps:List Int) (rws:List (List Int)):Prop where
 fr:Fr g0 g
 q0:g0.nx=q
 hp:Hp g q (·<4) V E
 v0:V 0=.hptr i9 0 0 0
 e0:E 0=.bx [.int .i64 card,V 1,V 2]
 e1:E 1=.sl 1 (ps.map ci)
 e2:∃rr,E 2=.sl 1 rr∧All2 (Rp.rp NoP 0 .nil) rws rr
 v3:V 3=.hptr i8 0 0 0
 e3:E 3=.bx [.int .i64 card,fa,fb,fc]
section
variable {q i8 i9:Nat}{card:Int}{fa fb fc:AV}{g0 g ga:G}{V:Nat→AV}{E:Nat→En}{ps ps':List Int}{rws:List (List Int)}
theorem AS.b9 (h:AS q i8 i9 card fa fb fc g0 g V E ps rws):g.h.get i9=.cells 3 [[.int .i64 card,V 1,V 2]] 0 false false∧q≤i9∧i9<g.nx:=by
 obtain ⟨i,a,b,c,e⟩:=h.hp.box (k:=0) (by decide) h.e0
 rw[h.v0] at c;injection c with c;subst c
 exact ⟨e,a,b⟩
theorem AS.b8 (h:AS q i8 i9 card fa fb fc g0 g V E ps rws):g.h.get i8=.cells 4 [[.int .i64 card,fa,fb,fc]] 0 false false:=by
 obtain ⟨i,a,b,c,e⟩:=h.hp.box (k:=3) (by decide) h.e3
 rw[h.v3] at c;injection c with c;subst c
 exact e
theorem AS.same (h:AS q i8 i9 card fa fb fc g0 g V E ps rws)(hf:ga.h=g.h)(hn:g.nx≤ga.nx):AS q i8 i9 card fa fb fc g0 ga V E ps rws :=
 ⟨⟨by have:=h.fr.1;omega,fun i hi=>by rw[hf,h.fr.2 i hi]⟩,h.q0,h.hp.same hf hn,h.v0,h.e0,h.e1,h.e2,h.v3,h.e3⟩
theorem AS.par (h:AS q i8 i9 card fa fb fc g0 g V E ps rws){v1:AV}(hp':Hp ga q (·<4) (ups V 1 v1) (ups E 1 (.sl 1 (ps'.map ci))))(hfr:∀i,i<q→ga.h.get i=g.h.get i)(hn:g.nx≤ga.nx) :
  AS q i8 i9 card fa fb fc g0 (ga.put i9 (.cells 3 [[.int .i64 card,v1,V 2]] 0 false false)) (ups V 1 v1) (ups (ups E 1 (.sl 1 (ps'.map ci))) 0 (.bx [.int .i64 card,v1,V 2])) ps' rws:=by
 have hq:=h.q0
 have:=h.b9
 exact { fr:=⟨by have:=h.fr.1;simp;omega,fun i hi=>by rw[G.put_h,get_put_ne _ _ _ (by omega),hfr i (by omega),h.fr.2 i hi]⟩,q0:=hq
         hp:=hp'.putb (k:=0) (by decide) (row:=[.int .i64 card,V 1,V 2]) (by rw[ups_ne _ _ (by decide)];exact h.e0) (by rw[ups_ne _ _ (by decide)];exact h.v0) rfl
         v0:=by rw[ups_ne _ _ (by decide)];exact h.v0,e0:=by rw[ups_self,ups_self,ups_ne _ _ (by decide)],e1:=by rw[ups_ne _ _ (by decide),ups_self]
         e2:=by rw[ups_ne _ _ (by decide),ups_ne _ _ (by decide)];exact h.e2,v3:=by rw[ups_ne _ _ (by decide)];exact h.v3,e3:=by rw[ups_ne _ _ (by decide),ups_ne _ _ (by decide)];exact h.e3 }
theorem AS.row (h:AS q i8 i9 card fa fb fc g0 g V E ps rws){v1:AV}{rr:List (List AV)}{rws':List (List Int)}(hp':Hp ga q (·<4) (ups V 2 v1) (ups E 2 (.sl 1 rr)))(hrr:All2 (Rp.rp NoP 0 .nil) rws' rr)(hfr:∀i,i<q→ga.h.get i=g.h.get i)(hn:g.nx≤ga.nx) :
  AS q i8 i9 card fa fb fc g0 (ga.put i9 (.cells 3 [[.int .i64 card,V 1,v1]] 0 false false)) (ups V 2 v1) (ups (ups E 2 (.sl 1 rr)) 0 (.bx [.int .i64 card,V 1,v1])) ps rws':=by
 have hq:=h.q0
 have:=h.b9
 exact { fr:=⟨by have:=h.fr.1;simp;omega,fun i hi=>by rw[G.put_h,get_put_ne _ _ _ (by omega),hfr i (by omega),h.fr.2 i hi]⟩,q0:=hq
         hp:=hp'.putb (k:=0) (by decide) (row:=[.int .i64 card,V 1,V 2]) (by rw[ups_ne _ _ (by decide)];exact h.e0) (by rw[ups_ne _ _ (by decide)];exact h.v0) rfl
         v0:=by rw[ups_ne _ _ (by decide)];exact h.v0,e0:=by rw[ups_self,ups_self,ups_ne _ _ (by decide)],e1:=by rw[ups_ne _ _ (by decide),ups_ne _ _ (by decide)];exact h.e1
         e2:=by rw[ups_ne _ _ (by decide),ups_self];exact ⟨rr,rfl,hrr⟩,v3:=by rw[ups_ne _ _ (by decide)];exact h.v3,e3:=by rw[ups_ne _ _ (by decide),ups_ne _ _ (by decide)];exact h.e3 }
end
def ASt (p k0 i8 i9:Nat)(act bb:AV)(first:Int)(nn i:Nat)(t:T):Prop :=
 St t [(1,.hptr p 0 0 0),(2,act),(3,.hptr k0 0 0 0),(6,.int .i64 first),(9,.hptr i9 0 0 0),(23,bb),(24,.int .i64 (nn:Int)),(25,.int .i64 (i:Int)),(7,.int .i64 (i:Int)),(8,.hptr i8 0 0 0)]
theorem add_b0 {d p k0 q i8 i9 nn i:Nat}{act bb fa fb fc:AV}{card:Int}{first:Nat}{frm noise:List Int}{rws:List (List Int)}{Q:QT}{t:T}{g g0:G}{V:Nat→AV}{E:Nat→En}(hfa:SlR NoP 0 .nil frm fa)(hf:frm.length≤100)(hfn:∀y∈frm,0≤y∧y<100)(hno:noise.length≤100)(hfi:first≤1000)
  (ht:ASt p k0 i8 i9 act bb first nn i t) (h66:tat t 66=fa) (h67:tat t 67=.int .i64 (frm.length:Int)) (h68:tat t 68=.int .i64 0) (hA:AS q i8 i9 card fa fb fc g0 g V E noise rws)
  (fin:∀t g V E,ASt p k0 i8 i9 act bb first nn i t→AS q i8 i9 card fa fb fc g0 g V E (noise++frm.map ((first:Int)+·)) rws→Q (.exit 2) t [] g) :
  wpL (wp C0 d none f_twin_known_add_b0) Q t [] g:=by
 have hr:=hfa.ints
 simp only[f_twin_known_add_b0]
 refine wpL_range (m:=frm.length) (by omega) (fun j t df g=>df=[]∧ASt p k0 i8 i9 act bb first nn i t∧tat t 66=fa∧∃V E,AS q i8 i9 card fa fb fc g0 g V E (noise++(frm.take j).map ((first:Int)+·)) rws)
  ⟨rfl,ht,h66,V,E,by simpa using hA⟩ h68 h67 (by decide) (by rintro j t df g v s (rfl | rfl | rfl)<;>simp[ASt,St,sx]) ?_ ?_
 ·clear ht h66 h67 h68 hA
  rintro j t df g hj ⟨rfl,⟨h1,h2,h3,h6,h9,h23,h24,h25,h7,h8,-⟩,h66,V,E,hA⟩ h68 h67
  obtain ⟨y,hy,htk,hm⟩:=take_next hj
  have hyb:=hfn y hm
  have hr:=(hfa.tree (h':=g.h) (Nat.le_refl _)).ints
  obtain ⟨b9,c1,c2⟩:=hA.b9
  have hnx:=hA.hp.nx
  simp only[sx,sy,SO.run,↓reduceIte,Nat.reduceEqDiff,Nat.reduceAdd,Nat.reduceLeDiff,h6,h9,h66,h68,hr,hj,hy,ci,List.length_map,List.getElem?_map,Option.map_some,Option.isSome_some,Option.getD_some,b9,wrap64 (show -9223372036854775808≤(first:Int)+y by omega) (show (first:Int)+y<9223372036854775808 by omega)]
  refine Hp.app (k:=1) (hA.hp.step (by simp) (fun i' _ hi'=>by rw[G.new_h,get_put_ne _ _ _ (by omega)])) (by decide) hA.e1 (new:=[[.int .i64 ((first:Int)+y)]]) (by simp[sx,sy,H.get_put]) (by simp[room];omega) fun v1 ga hHa na fra _ _ vca vta=>?_
  simp only[sx,sy] at na fra
  have e:(List.map ci (noise++(frm.take j).map ((first:Int)+·))++[[AV.int .i64 ((first:Int)+y)]])=List.map ci (noise++(frm.take (j+1)).map ((first:Int)+·)):=by rw[htk];simp[ci]
  rw[e] at hHa
  have hA2:=hA.par hHa (fun i' hi'=>by rw[fra i' hi',if_neg (by omega)]) (by omega)
  have b9a:ga.h.get i9=.cells 3 [[.int .i64 card,V 1,V 2]] 0 false false:=by
   obtain ⟨i,a,b,c,e⟩:=hHa.box (k:=0) (by decide) (by rw[ups_ne _ _ (by decide)];exact hA.e0)
   rw[ups_ne _ _ (by decide),hA.v0] at c;injection c with c;subst c
   exact e
  simp only[sx,sy,SO.run,↓reduceIte,Nat.reduceEqDiff,Nat.reduceAdd,Nat.reduceLeDiff,h1,h2,h3,h6,h7,h8,h9,h23,h24,h25,h66,h67,h68,b9a,vca,vta,ASt,St]
  exact ⟨_,_,hA2⟩
 ·rintro t df g ⟨rfl,ht,h66,V,E,hA⟩
  rw[List.take_length] at hA
  exact fin t g V E ht hA
def ASt2 (p k0 i8 i9:Nat)(act bb:AV)(first:Int)(nn i ab be:Nat)(t:T):Prop :=
 St t [(1,.hptr p 0 0 0),(2,act),(3,.hptr k0 0 0 0),(6,.int .i64 first),(9,.hptr i9 0 0 0),(23,bb),(24,.int .i64 (nn:Int)),(25,.int .i64 (i:Int)),(7,.int .i64 (i:Int)),(8,.hptr i8 0 0 0),(12,.int .i64 (ab:Int)),(13,.int .i64 (be:Int))]
theorem add_b1 {d p k0 q i8 i9 nn i ab be j cN:Nat}{x:KnownM}{act bb fa fb fc ra na:AV}{first:Int}{out ps:List Int}{R0:List (List Int)}{Q:QT}{t:T}{g g0:G}{V:Nat→AV}{E:Nat→En}(hd:0<d)
  (hm:∀h,Agg x NoP 0 h (.agg [.int .i64 x.m.grain,ra,na,.int .i64 x.hidden])) (hk:g0.h.get k0=.cells 4 [[.int .i64 x.m.grain,ra,na,.int .i64 x.hidden]] 0 false false) (hkq:k0<q) (hc4:cN≤4)
  (hfc:SlR NoP 0 .nil out fc) (hol:out.length=ab*be) (hob:ab*be≤100000000) (hov:∀y∈out,0≤y∧y<(cN:Int)) (hj:j<be) (hR:R0.length≤100000000)
  (ht:ASt2 p k0 i8 i9 act bb first nn i ab be t) (h88:tat t 88=.int .i64 (be:Int)) (h89:tat t 89=.int .i64 (j:Int)) (h14:tat t 14=.int .i64 (j:Int)) (h92:tat t 92=.int .i64 (ab:Int)) (h93:tat t 93=.int .i64 0) (hA:AS q i8 i9 cN fa fb fc g0 g V E ps R0)
  (fin:∀t g V E,ASt2 p k0 i8 i9 act bb first nn i ab be t→tat t 88=.int .i64 (be:Int)→tat t 89=.int .i64 (j:Int)→AS q i8 i9 cN fa fb fc g0 g V E ps (R0++(List.range ab).map fun i=>S.row x.m.grain cN (out[i*be+j]?.getD 0).toNat)→Q (.exit 6) t [] g) :
  wpL (wp C0 d none f_twin_known_add_b1) Q t [] g:=by
 simp only[f_twin_known_add_b1]
 have hbe:be≤100000000∨ab=0:=by
  by_cases h:ab=0
  ·exact .inr h
  ·exact .inl (Nat.le_trans (Nat.le_mul_of_pos_left be (by omega)) hob)
 have hab:ab≤100000000:=Nat.le_trans (Nat.le_mul_of_pos_right ab (by omega)) hob
 refine wpL_range (m:=ab) (by omega) (fun a t df g=>df=[]∧ASt2 p k0 i8 i9 act bb first nn i ab be t∧tat t 88=.int .i64 (be:Int)∧tat t 89=.int .i64 (j:Int)∧tat t 14=.int .i64 (j:Int)∧∃V E,AS q i8 i9 cN fa fb fc g0 g V E ps (R0++(List.range a).map fun i=>S.row x.m.grain cN (out[i*be+j]?.getD 0).toNat))
  ⟨rfl,ht,h88,h89,h14,V,E,by simpa using hA⟩ h93 h92 (by decide) (by rintro j t df g v s (rfl | rfl | rfl)<;>simp[ASt2,St,sx]) ?_ ?_
 ·clear ht h88 h89 h14 h92 h93 hA
  rintro a t df g ha ⟨rfl,⟨h1,h2,h3,h6,h9,h23,h24,h25,h7,h8,h12,h13,-⟩,h88,h89,h14,V,E,hA⟩ h93 h92
  obtain ⟨b9,c1,c2⟩:=hA.b9
  have b8:=hA.b8
  have hnx:=hA.hp.nx
  have hq0:=hA.q0
  have bk:g.h.get k0=.cells 4 [[.int .i64 x.m.grain,ra,na,.int .i64 x.hidden]] 0 false false:=by rw[hA.fr.2 k0 (by omega),hk]
  have hlt:a*be+j<ab*be:=by
   have:(a+1)*be≤ab*be:=Nat.mul_le_mul_right be (by omega)
   rw[Nat.add_mul,Nat.one_mul] at this;omega
  have hlt2:a*be+j<out.length:=by omega
  obtain ⟨y,hy⟩:∃y,out[a*be+j]?=some y:=⟨_,List.getElem?_eq_getElem hlt2⟩
  obtain ⟨y0,y1⟩:=hov y (List.mem_of_getElem? hy)
  obtain ⟨yN,rfl⟩:=Int.eq_ofNat_of_zero_le y0
  have hr:=(hfc.tree (h':=g.h) (Nat.le_refl _)).ints
  have hmul:(a:Int)*(be:Int)=((a*be:Nat):Int):=by simp
  have hadd:((a*be:Nat):Int)+(j:Int)=((a*be+j:Nat):Int):=by simp
  simp only[sx,sy,sf,SO.run,↓reduceIte,Nat.reduceEqDiff,Nat.reduceAdd,Nat.reduceLeDiff,h3,h8,h9,h13,h14,h93,b8,b9,bk,hmul,hadd,wrap64 (show -9223372036854775808≤((a*be:Nat):Int) by omega) (show ((a*be:Nat):Int)<9223372036854775808 by omega),wrap64 (show -9223372036854775808≤((a*be+j:Nat):Int) by omega) (show ((a*be+j:Nat):Int)<9223372036854775808 by omega),hr,hlt2,hy,ci,List.length_map,List.getElem?_map,Option.map_some,Option.isSome_some,Option.getD_some]
  refine sat_ex (row_ok (c:=cN) (i:=yN) hd (hm _) hc4 (by omega)) fun r hr2=>?_
  simp only[sx,sy,sf,SO.run,↓reduceIte,Nat.reduceEqDiff,Nat.reduceAdd,Nat.reduceLeDiff]
  rw[bsl_one 1 [.nils] r _ (by rw[hr2.cells];rfl) hr2.tup,hr2.cells]
  simp only[sx,sy,sf,SO.run,↓reduceIte,Nat.reduceEqDiff,Nat.reduceAdd,Nat.reduceLeDiff]
  obtain ⟨rr,e2,hrr⟩:=hA.e2
  have hrl:=hrr.len
  simp only[List.length_append,List.length_map,List.length_range] at hrl
  refine Hp.app (k:=2) (hA.hp.step (by simp;omega) (fun i' _ hi'=>?_)) (by decide) e2 (new:=[[r]]) (by simp[sx,sy,H.get_put]) (by simp[room];omega) fun v1 ga hHa na fra _ lga vca vta=>?_
  ·simp[H.get_put];omega
  simp only[sx,sy] at na fra lga
  have hA2:=hA.row hHa (rws':=R0++(List.range (a+1)).map fun i=>S.row x.m.grain cN (out[i*be+j]?.getD 0).toNat) (by
   rw[List.range_succ,List.map_append,←List.append_assoc]
   refine hrr.append ⟨?_,trivial⟩
   show Rp.rp NoP 0 .nil (S.row x.m.grain cN (out[a*be+j]?.getD 0).toNat) [r]
   rw[hy]
   exact hr2) (fun i' hi'=>by rw[fra i' hi',if_neg (by omega)]) (by omega)
  have b9a:ga.h.get i9=.cells 3 [[.int .i64 (cN:Int),V 1,V 2]] 0 false false:=by
   obtain ⟨i,a,b,c,e⟩:=hHa.box (k:=0) (by decide) (by rw[ups_ne _ _ (by decide)];exact hA.e0)
   rw[ups_ne _ _ (by decide),hA.v0] at c;injection c with c;subst c
   exact e
  have ro:=(hA.hp.own (k:=2) (by decide) e2).refs_lt
  simp only[sx,sy,sf,SO.run,↓reduceIte,Nat.reduceEqDiff,Nat.reduceAdd,Nat.reduceLeDiff,h1,h2,h3,h6,h7,h8,h9,h12,h13,h14,h23,h24,h25,h88,h89,h92,h93,b9a,vca,vta,foot_twin_known_row,ASt2,St]
  refine ⟨?_,?_⟩
  ·simp only[List.reverse_cons,List.reverse_nil,List.nil_append,List.cons_append]
   refine footsOk_mk [false,false,false,false,false,false,false,false,false,false,false,false,false,false,false,true,true,false,true] [(0,15),(1,15)] (by simp[All2,rdLook,noLook,bigLook]) (by decide) ?_
   rintro p hp x y hx hy
   simp only[List.mem_cons,List.not_mem_nil,or_false] at hp
   rcases hp with rfl | rfl<;>(simp at hx hy;subst hx;subst hy;refine apart_mk rfl rfl rfl rfl ?_ ?_ ?_<;>simp[rdLook,noLook,refIds]<;>omega)
  ·exact ⟨_,_,hA2.same (by simp) (by simp;omega)⟩
 ·rintro t df g ⟨rfl,ht,h88,h89,h14,V,E,hA⟩
  exact fin t g V E ht h88 h89 hA
theorem add_b3 {d p k0 q i8 i9 nn i ab be cN:Nat}{x:KnownM}{act bb fa fb fc ra na:AV}{first:Int}{out ps:List Int}{Q:QT}{t:T}{g g0:G}{V:Nat→AV}{E:Nat→En}(hd:0<d)
  (hm:∀h,Agg x NoP 0 h (.agg [.int .i64 x.m.grain,ra,na,.int .i64 x.hidden])) (hk:g0.h.get k0=.cells 4 [[.int .i64 x.m.grain,ra,na,.int .i64 x.hidden]] 0 false false) (hkq:k0<q) (hc4:cN≤4)
  (hfc:SlR NoP 0 .nil out fc) (hol:out.length=ab*be) (hob:ab*be≤100000000) (hbe:be≤100000000) (hov:∀y∈out,0≤y∧y<(cN:Int))
  (ht:ASt2 p k0 i8 i9 act bb first nn i ab be t) (h88:tat t 88=.int .i64 (be:Int)) (h89:tat t 89=.int .i64 0) (hA:AS q i8 i9 cN fa fb fc g0 g V E ps [])
  (fin:∀t g V E,ASt2 p k0 i8 i9 act bb first nn i ab be t→AS q i8 i9 cN fa fb fc g0 g V E ps (S.rowsTo x.m.grain cN ab be out be)→Q (.exit 4) t [] g) :
  wpL (wp C0 d none f_twin_known_add_b3) Q t [] g:=by
 have hlen:∀j,(S.rowsTo x.m.grain cN ab be out j).length=j*ab:=fun j=>by
  induction j with
  | zero=>simp[S.rowsTo]
  | succ j ih =>
   have:S.rowsTo x.m.grain cN ab be out (j+1)=S.rowsTo x.m.grain cN ab be out j++(List.range ab).map fun i=>S.row x.m.grain cN (out[i*be+j]?.getD 0).toNat:=by simp[S.rowsTo,List.range_succ]
   rw[this,List.length_append,ih,List.length_map,List.length_range,Nat.add_mul,Nat.one_mul]
 simp only[f_twin_known_add_b3,f_twin_known_add_k2]
 refine wpL_range (m:=be) (by omega) (fun j t df g=>df=[]∧ASt2 p k0 i8 i9 act bb first nn i ab be t∧∃V E,AS q i8 i9 cN fa fb fc g0 g V E ps (S.rowsTo x.m.grain cN ab be out j))
  ⟨rfl,ht,V,E,by simpa [S.rowsTo] using hA⟩ h89 h88 (by decide) (by rintro j t df g v s (rfl | rfl | rfl)<;>simp[ASt2,St,sx]) ?_ ?_
 ·clear ht h88 h89 hA
  rintro j t df g hj ⟨rfl,ht,V,E,hA⟩ h89 h88
  obtain ⟨h1,h2,h3,h6,h9,h23,h24,h25,h7,h8,h12,h13,-⟩:=ht
  simp only[sx,sy,SO.run,↓reduceIte,Nat.reduceEqDiff,Nat.reduceAdd,Nat.reduceLeDiff,h12,h89]
  have hjl:j*ab≤ab*be:=by rw[Nat.mul_comm];exact Nat.mul_le_mul_left ab (by omega)
  refine add_b1 (p:=p) (act:=act) (first:=first) (bb:=bb) (nn:=nn) (i:=i) (j:=j) hd hm hk hkq hc4 hfc hol hob hov hj (by rw[hlen];omega) (by simp[ASt2,St,sx,h1,h2,h3,h6,h9,h23,h24,h25,h7,h8,h12,h13]) (by simp[sx,h88]) (by simp[sx,h89]) (by simp[sx]) (by simp[sx]) (by simp[sx]) hA ?_
  intro t g V E ht h88 h89 hA
  simp only[sx,sy,SO.run,↓reduceIte,Nat.reduceEqDiff,Nat.reduceAdd,Nat.reduceLeDiff]
  refine ⟨⟨ht,V,E,?_⟩,h89,h88⟩
  have:S.rowsTo x.m.grain cN ab be out (j+1)=S.rowsTo x.m.grain cN ab be out j++(List.range ab).map fun i=>S.row x.m.grain cN (out[i*be+j]?.getD 0).toNat:=by simp[S.rowsTo,List.range_succ]
  rw[this];exact hA
 ·rintro t df g ⟨rfl,ht,V,E,hA⟩
  exact fin t g V E ht hA
end
end Hx
end
