/- A part of the proof: an interpreter over abstract values, shown right against the model, and what the functions of the chapter compute on it. -/
import Derived.Test.YtaebcalnodgpnaaHx15
set_option linter.unusedVariables false
set_option linter.unusedSimpArgs false
set_option linter.unnecessarySimpa false
section
namespace Hx
open Go
noncomputable section
def zR (K:Nat):VS:=fun P k h v=>∃m,Bnd K m/\Agg m P k h v
theorem Hl (K:Nat):Snb (zR K) 1:=by
 refine ⟨fun {P k h v n} d r hn=>?_,fun {k h v n} r hn=>?_⟩
 ·obtain ⟨m,hm,r⟩:=r
  obtain ⟨v',e,r'⟩:=(aQ m).snap d r hn
  exact ⟨v',e,m,hm,r'⟩
 ·obtain ⟨m,hm,r⟩:=r
  exact (aQ m).tag r hn
theorem dK {sz:Nat}{v:AV}{i off:Nat}(h:kG v=true):Eq (ec sz v i off)=.val (ec sz v i off):=by
 cases v<;>first | rfl | cases h
abbrev P3:Nat->Prop:=fun i=>3<=i
theorem bk2 {d K:Nat}{t:T}{g:G}{gr:Int}{rv nv:AV}{rts:List (List Int)}{nds:List Mech}(h3:tat t 3=.hptr 1 0 0 0)(h4:tat t 4=.hptr 2 0 0 0)(e1:g.h.get 1=.cells 3 [[.int .i64 gr,rv,nv]] 0 false false)(e2:g.h.get 2=.cells 3 [[.int .i64 0,.nils,.nils]] 0 false false)
  (hr:SlR P3 0 g.h rts rv) (hn:SlR P3 0 g.h nds nv) (hb:Bnd K ⟨gr,rts,nds⟩):wp C0 d none du (fnQ C0 d [SR.cell true 3 4] fun v g'=>∃P,zR K P 0 g'.h v) t [] g:=by
 simp only[du,sx,sy,SO.run,↓reduceIte,Nat.reduceEqDiff,Nat.reduceAdd,Nat.reduceLeDiff,h3,h4,e1,e2]
 refine ⟨P3,_,hb,_,rfl,?_⟩
 exact Rp.mono (P:=P3) (h:=g.h) (aC.2 ⟨rv,nv,rfl,hr,hn⟩) (fun i hi=>⟨hi,by rw[aq _ _ _ (by have:3<=i:=hi;omega)]⟩) (Nat.le_refl _)
theorem BD.sl {K R n:Nat}{g:G}{V:Ky->AV}{E:Ky->En}{Rt:Nat->List Int}{c:Nat->Int}{F:Nat->Nat->List Int}(hD:BD K R n V E Rt c F)(hH:Hp g 3 (LB R n) V E)(hK:K<=2000000)(hR:R<=K)(hn:n<=K) :
  SlR P3 0 g.h ((List.range R).map Rt) (V (4,0))/\SlR P3 0 g.h ((List.range n).map fun i=>(⟨c i,F 1 i,F 2 i,F 3 i⟩:Mech)) (V (4,1))/\∀gr,Bnd K ⟨gr,(List.range R).map Rt,(List.range n).map fun i=>(⟨c i,F 1 i,F 2 i,F 3 i⟩:Mech)⟩:=by
 have p3:∀{k:Ky} {sz:Nat} {rows:List (List AV)},Own g 3 (V k) sz rows->∀i,vid (V k)=some i->P3 i:=fun h i hi=>(h.lt hi).1
 have sl1:∀{k:Ky} {l:List Int},Own g 3 (V k) 1 (l.map ci)->l.length<=K->SlR P3 0 g.h l (V k):=fun h hl=>Own.sl (α:=Int) h (by omega) (All2.of_map (fun a=>aS.2 rfl) _) (p3 h)
 refine ⟨?_,?_,fun gr=>⟨by simpa using hR,fun x hx=>?_,by simpa using hn,fun x hx=>?_⟩⟩
 ·have:=hH.own (k:=(4,0)) (by simp[LB]) hD.rs
  refine Own.sl (α:=List Int) this (by simp;omega) (pG fun i hi=>?_) (p3 this)
  have hi:=List.mem_range.1 hi
  obtain ⟨q1,q2⟩:=hD.r i hi
  exact ⟨_,rfl,sl1 (hH.own (k:=(0,i)) (.inl ⟨rfl,hi⟩) q1) q2⟩
 ·have:=hH.own (k:=(4,1)) (by simp[LB]) hD.ns
  refine Own.sl (α:=Mech) this (by simp;omega) (pG fun i hi=>?_) (p3 this)
  have hi:=List.mem_range.1 hi
  obtain ⟨q1,q2⟩:=hD.f 1 i (by omega) (by omega) hi
  obtain ⟨q3,q4⟩:=hD.f 2 i (by omega) (by omega) hi
  obtain ⟨q5,q6⟩:=hD.f 3 i (by omega) (by omega) hi
  exact bW.2 ⟨_,_,_,rfl,sl1 (hH.own (k:=(1,i)) (.inr (.inl ⟨by simp,by simp,hi⟩)) q1) q2,sl1 (hH.own (k:=(2,i)) (.inr (.inl ⟨by simp,by simp,hi⟩)) q3) q4,sl1 (hH.own (k:=(3,i)) (.inr (.inl ⟨by simp,by simp,hi⟩)) q5) q6⟩
 ·obtain ⟨i,hi,rfl⟩:=List.mem_map.1 hx
  exact (hD.r i (List.mem_range.1 hi)).2
 ·obtain ⟨i,hi,rfl⟩:=List.mem_map.1 hx
  have hi:=List.mem_range.1 hi
  exact ⟨(hD.f 1 i (by omega) (by omega) hi).2,(hD.f 2 i (by omega) (by omega) hi).2,(hD.f 3 i (by omega) (by omega) hi).2⟩
theorem BD.up {K K' R n:Nat}{V:Ky->AV}{E:Ky->En}{Rt:Nat->List Int}{c:Nat->Int}{F:Nat->Nat->List Int}(h:BD K R n V E Rt c F)(hK:K<=K'):BD K' R n V E Rt c F :=
 ⟨fun i hi=>⟨(h.r i hi).1,by have:=(h.r i hi).2;omega⟩,fun q i a b hi=>⟨(h.f q i a b hi).1,by have:=(h.f q i a b hi).2;omega⟩,h.rs,h.ns⟩
theorem wM {α:Type}{n J:Nat}{f h:Nat->α}{y:α}(he:∀i,h i=if i=J then y else f i):((List.range n).map f).set J y=(List.range n).map h:=by
 apply List.ext_getElem?
 intro i
 by_cases e:J=i
 ·subst e
  by_cases hj:J<n
  ·rw[List.getElem?_set_self (by simpa using hj)];simp[hj,he]
  ·rw[List.getElem?_eq_none (by simp;omega),List.getElem?_eq_none (by simp;omega)]
 ·rw[List.getElem?_set_ne e]
  by_cases hi:i<n
  ·simp[hi,he,Ne.symm e]
  ·rw[List.getElem?_eq_none (by simp;omega),List.getElem?_eq_none (by simp;omega)]
theorem SlR.far {α:Type} [Rp α]{P:Nat->Prop}{k:Nat}{h h':H}{l:List α}{v:AV}(r:SlR P k h l v)(hf:∀i,P i->h'.get i=h.get i):SlR P k h' l v:=by
 obtain ⟨w,hw,q⟩:=Rp.mono (P':=P) (h':=h') (show Rp.rp P k h l [v] from ⟨v,rfl,r⟩) (fun i hi=>⟨hi,hf i hi⟩) (Nat.le_refl _)
 injection hw with hw;subst hw;exact q
theorem SlR.heap {α:Type} [Rp α]{P:Nat->Prop}{k:Nat}{h h':H}{l:List α}{v:AV}(r:SlR P k h l v)(hf:h'=h):SlR P k h' l v:=by subst hf;exact r
theorem K0 {d K:Nat}{x:jg}{gr:Int}{R n J:Nat}{Rt:Nat->List Int}{c:Nat->Int}{F:Nat->Nat->List Int}(hK:K<=1000000)(hR:R<=K)(hn:n<=K)(hJ:J<n){t:T}{g':G}{V:Ky->AV}{E:Ky->En}{Qk:QT}
  (h2:tat t 2=.hptr 0 0 0 0) (h3:tat t 3=.hptr 1 0 0 0) (h4:tat t 4=.hptr 2 0 0 0) (h5:tat t 5=V (4,0)) (h8:tat t 8=V (4,1)) (h11:tat t 11=ec 4 (V (4,1)) J 0) (hH:Hp g' 3 (LB R n) V E)
  (f0:g'.h.get 0=.cells 4 [[u8v x.1,u8v x.2.1,u8v x.2.2.1,.int .i64 x.2.2.2]] 0 false false) (f1:g'.h.get 1=.cells 3 [[.int .i64 gr,V (4,0),V (4,1)]] 0 false false) (f2:g'.h.get 2=.cells 3 [[.int .i64 0,.nils,.nils]] 0 false false) (hD:BD K R n V E Rt c F)
  (fin:∀t g gr rv nv rts nds,tat t 3=.hptr 1 0 0 0->tat t 4=.hptr 2 0 0 0->g.h.get 1=.cells 3 [[.int .i64 gr,rv,nv]] 0 false false->g.h.get 2=.cells 3 [[.int .i64 0,.nils,.nils]] 0 false false->SlR P3 0 g.h rts rv->SlR P3 0 g.h nds nv->Bnd (K+1) ⟨gr,rts,nds⟩->Qk .norm t [] g) :
  wp C0 d none (.ops [o 105 (.fad 3 (.t 2)),o 106 (.load false 1 (.t 105)),o 107 (.fad 0 (.t 3)),oz (.store 1 (.t 107) (.t 106))]) Qk t [] g':=by
 have o0:=hH.own (k:=(4,0)) (by simp[LB]) hD.rs
 have o1:=hH.own (k:=(4,1)) (by simp[LB]) hD.ns
 have hDu:=hD.up (show K<=K+1 by omega)
 have hn0:0<n:=by omega
 have ry1:kG (V (4,1))=true:=dq o1.rows (i:=0) (by simpa using hn0)
 have lrow:((List.range n).map fun i=>[AV.int .i64 (c i),V (1,i),V (2,i),V (3,i)]).length=n:=by simp
 have hrowJ:((List.range n).map fun i=>[AV.int .i64 (c i),V (1,i),V (2,i),V (3,i)])[J]?=some [AV.int .i64 (c J),V (1,J),V (2,J),V (3,J)]:=by simp[hJ]
 have hnx:=hH.nx
 obtain ⟨s1,s2,s3⟩:=hDu.sl hH (by omega) (by omega) (by omega)
 simp only[sx,sy,SO.run,↓reduceIte,Nat.reduceEqDiff,Nat.reduceAdd,Nat.reduceLeDiff,h2,h3,f0,f1]
 exact fin _ _ x.2.2.2 _ _ _ _ (by simp[sx,h3]) (by simp[sx,h4]) (by simp[H.get_put]) (by simp[H.get_put,f2]) (s1.far fun i hi=>by simp[H.get_put];intro e;have:3<=i:=hi;omega) (s2.far fun i hi=>by simp[H.get_put];intro e;have:3<=i:=hi;omega) (s3 _)
theorem KM {d K:Nat}{x:jg}{gr:Int}{R n J:Nat}{Rt:Nat->List Int}{c:Nat->Int}{F:Nat->Nat->List Int}(hK:K<=1000000)(hR:R<=K)(hn:n<=K)(hJ:J<n){t:T}{g':G}{V:Ky->AV}{E:Ky->En}{Qk:QT}
  (h2:tat t 2=.hptr 0 0 0 0) (h3:tat t 3=.hptr 1 0 0 0) (h4:tat t 4=.hptr 2 0 0 0) (h5:tat t 5=V (4,0)) (h8:tat t 8=V (4,1)) (h11:tat t 11=ec 4 (V (4,1)) J 0) (hH:Hp g' 3 (LB R n) V E)
  (f0:g'.h.get 0=.cells 4 [[u8v x.1,u8v x.2.1,u8v x.2.2.1,.int .i64 x.2.2.2]] 0 false false) (f1:g'.h.get 1=.cells 3 [[.int .i64 gr,V (4,0),V (4,1)]] 0 false false) (f2:g'.h.get 2=.cells 3 [[.int .i64 0,.nils,.nils]] 0 false false) (hD:BD K R n V E Rt c F)
  (fin:∀t g gr rv nv rts nds,tat t 3=.hptr 1 0 0 0->tat t 4=.hptr 2 0 0 0->g.h.get 1=.cells 3 [[.int .i64 gr,rv,nv]] 0 false false->g.h.get 2=.cells 3 [[.int .i64 0,.nils,.nils]] 0 false false->SlR P3 0 g.h rts rv->SlR P3 0 g.h nds nv->Bnd (K+1) ⟨gr,rts,nds⟩->Qk .norm t [] g) :
  wp C0 d none (.feet [0,0,2,6,14,0,32,96,254,511,1023,2047] [o 164 (.mv (.t 11)),o 165 (.mv (.t 11)),o 166 (.nilc (.t 165)),o 167 (.fad 1 (.t 166)),o 168 (.load false 1 (.t 167)),o 169 (.fad 3 (.t 2)),o 170 (.load false 1 (.t 169)),o 171 (.bsl 1 1 [.int .i64 0] [0] [.t 170]),o 172 (.app 1 8 (.t 168) (.t 171)),o 173 (.nilc (.t 164)),o 174 (.fad 1 (.t 173)),oz (.store 1 (.t 174) (.t 172))]) Qk t [] g':=by
 have o0:=hH.own (k:=(4,0)) (by simp[LB]) hD.rs
 have o1:=hH.own (k:=(4,1)) (by simp[LB]) hD.ns
 have hDu:=hD.up (show K<=K+1 by omega)
 have hn0:0<n:=by omega
 have ry1:kG (V (4,1))=true:=dq o1.rows (i:=0) (by simpa using hn0)
 have lrow:((List.range n).map fun i=>[AV.int .i64 (c i),V (1,i),V (2,i),V (3,i)]).length=n:=by simp
 have hrowJ:((List.range n).map fun i=>[AV.int .i64 (c i),V (1,i),V (2,i),V (3,i)])[J]?=some [AV.int .i64 (c J),V (1,J),V (2,J),V (3,J)]:=by simp[hJ]
 have hnx:=hH.nx
 have hq:=hD.f 1 J (by omega) (by omega) hJ
 have hkL:LB R n (1,J):=.inr (.inl ⟨by simp,by simp,hJ⟩)
 have hown:=hH.own hkL hq.1
 have hlk:=hq.2
 have hnx:=hH.nx
 simp only[sx,sy,sf,SO.run,↓reduceIte,Nat.reduceEqDiff,h2,h11,f0,dK ry1,o1.rows,lrow,hJ,ry1,hrowJ,Option.isSome_some,Option.getD_some]
 refine Hp.app (k:=(1,J)) (hH.step (by simp;try omega) (fun i hi hi2=>?_)) hkL hq.1 (new:=[[.int .i64 (x.2.2.2)]]) (by simp[sx,sy]) (by simp[aZ];omega) fun v1 ga hHa na fra fsa lga vca vta=>?_
 ·simp[H.get_put];try omega
 simp only[sx,sy] at na fra fsa lga
 have o1a:=hHa.own (k:=(4,1)) (by simp[LB]) (by rw[ae _ _ (by simp)];exact hD.ns)
 rw[ae _ _ (by simp)] at o1a
 have hNr:=o1a.rows
 simp only[sx,sy,sf,SO.run,↓reduceIte,Nat.reduceEqDiff,dK ry1,fW ry1]
 have vv:V (4,1)=ups V (1,J) v1 (4,1):=(ae _ _ (by simp)).symm
 rw[vv]
 refine Hp.put (k:=(4,1)) (row:=[.int .i64 (c J),V (1,J),V (2,J),V (3,J)]) (row':=[.int .i64 (c J),v1,V (2,J),V (3,J)]) (hHa.same (by simp) (by simp;try omega)) (by simp[LB]) (by rw[ae _ _ (by simp)];exact hD.ns) hrowJ (by rw[vca];rfl) vta (by rw[vca];rfl) fun gb hHb nb frb _=>?_
 try simp only[sy] at nb frb
 have hDb:BD (K+1) R n (ups V (1,J) v1) (ups (ups E (1,J) (.sl 1 ((F 1 J).map ci++[[.int .i64 (x.2.2.2)]]))) (4,1) (.sl 4 (((List.range n).map fun i=>[.int .i64 (c i),V (1,i),V (2,i),V (3,i)]).set J [.int .i64 (c J),v1,V (2,J),V (3,J)]))) Rt c
   (fun q'=>if q'=1 then ups (F 1) J (F 1 J++[x.2.2.2]) else F q'):=by
  refine ⟨fun i hi=>?_,fun q' i a1 a2 hi=>?_,?_,?_⟩
  ·rw[ae _ _ (by simp),ae _ _ (by simp)];exact ⟨(hD.r i hi).1,by have:=(hD.r i hi).2;omega⟩
  ·have hf:=hD.f q' i a1 a2 hi
   rw[ae _ _ (by simp;omega)]
   by_cases e:(q',i)=(1,J)
   ·obtain ⟨rfl,rfl⟩:=Prod.mk.inj e
    rw[ax,if_pos rfl,ax]
    exact ⟨by simp[ci],by simp;omega⟩
   ·rw[ae _ _ e]
    split
    ·rename_i e2;subst e2
     rw[ae _ _ (fun e3=>e (by rw[e3]))];exact ⟨hf.1,by omega⟩
    ·exact ⟨hf.1,by omega⟩
  ·rw[ae _ _ (by simp),ae _ _ (by simp),hD.rs]
   exact congrArg (En.sl 1) (List.map_congr_left fun i _=>by rw[ae _ _ (by simp)])
  ·rw[ax]
   refine congrArg (En.sl 4) ?_
   exact wM (fun i=>by by_cases e:i=J;(· subst e;rw[if_pos rfl,ax,ae V (k:=(1,i)) (j:=(2,i)) _ (by simp),ae V (k:=(1,i)) (j:=(3,i)) _ (by simp)]);(· rw[if_neg e,ae V (k:=(1,J)) (j:=(1,i)) _ (by simp[e]),ae V (k:=(1,J)) (j:=(2,i)) _ (by simp[e]),ae V (k:=(1,J)) (j:=(3,i)) _ (by simp[e])]))
 obtain ⟨s1,s2,s3⟩:=hDb.sl hHb (by omega) (by omega) (by omega)
 rw[ae _ _ (by simp)] at s1 s2
 have g1e:gb.h.get 1=.cells 3 [[.int .i64 gr,V (4,0),V (4,1)]] 0 false false:=by rw[frb 1 (by omega),fra 1 (by omega)];simp[f1]<;>omega
 have g2e:gb.h.get 2=.cells 3 [[.int .i64 0,.nils,.nils]] 0 false false:=by rw[frb 2 (by omega),fra 2 (by omega)];simp[f2]<;>omega
 simp only[sy]
 refine ⟨?_,?_⟩
 ·simp only[List.reverse_cons,List.reverse_nil,List.nil_append,List.cons_append]
  refine aX [false,false,false,false,false,false,false,true,true,false,false,true] [(0,7),(1,7),(2,7),(3,7),(4,7),(0,8)] (by simp[All2,au,aF]) (by decide) ?_
  rintro p hp x y hx hy
  try simp only[List.mem_cons,List.not_mem_nil,or_false] at hp
  have ro:=hown.refs_lt
  have ro1:=o1.refs_lt
  rcases hp with rfl | rfl | rfl | rfl | rfl | rfl<;>(simp at hx hy;subst hx;subst hy;refine dG rfl rfl rfl rfl ?_ ?_ ?_<;>simp[au,aF,bM ry1,ae]<;>first | omega | (intro i' hi';have:=ro1 i' hi';omega) | (intro i' hi';rcases lga i' hi' with h | h<;>first | omega | simp at h) | skip)
 exact fin _ _ gr _ _ _ _ (by simp[sx,h3]) (by simp[sx,h4]) (by simpa using g1e) (by simpa using g2e) (s1.heap (by simp)) (s2.heap (by simp)) (s3 gr)
theorem KX {d K:Nat}{x:jg}{gr:Int}{R n J:Nat}{Rt:Nat->List Int}{c:Nat->Int}{F:Nat->Nat->List Int}(hK:K<=1000000)(hR:R<=K)(hn:n<=K)(hJ:J<n){t:T}{g':G}{V:Ky->AV}{E:Ky->En}{Qk:QT}
  (h2:tat t 2=.hptr 0 0 0 0) (h3:tat t 3=.hptr 1 0 0 0) (h4:tat t 4=.hptr 2 0 0 0) (h5:tat t 5=V (4,0)) (h8:tat t 8=V (4,1)) (h11:tat t 11=ec 4 (V (4,1)) J 0) (hH:Hp g' 3 (LB R n) V E)
  (f0:g'.h.get 0=.cells 4 [[u8v x.1,u8v x.2.1,u8v x.2.2.1,.int .i64 x.2.2.2]] 0 false false) (f1:g'.h.get 1=.cells 3 [[.int .i64 gr,V (4,0),V (4,1)]] 0 false false) (f2:g'.h.get 2=.cells 3 [[.int .i64 0,.nils,.nils]] 0 false false) (hD:BD K R n V E Rt c F)
  (fin:∀t g gr rv nv rts nds,tat t 3=.hptr 1 0 0 0->tat t 4=.hptr 2 0 0 0->g.h.get 1=.cells 3 [[.int .i64 gr,rv,nv]] 0 false false->g.h.get 2=.cells 3 [[.int .i64 0,.nils,.nils]] 0 false false->SlR P3 0 g.h rts rv->SlR P3 0 g.h nds nv->Bnd (K+1) ⟨gr,rts,nds⟩->Qk .norm t [] g) :
  wp C0 d none (.feet [0,0,2,6,14,0,32,96,254,511,1023,2047] [o 177 (.mv (.t 11)),o 178 (.mv (.t 11)),o 179 (.nilc (.t 178)),o 180 (.fad 2 (.t 179)),o 181 (.load false 1 (.t 180)),o 182 (.fad 3 (.t 2)),o 183 (.load false 1 (.t 182)),o 184 (.bsl 1 1 [.int .i64 0] [0] [.t 183]),o 185 (.app 1 8 (.t 181) (.t 184)),o 186 (.nilc (.t 177)),o 187 (.fad 2 (.t 186)),oz (.store 1 (.t 187) (.t 185))]) Qk t [] g':=by
 have o0:=hH.own (k:=(4,0)) (by simp[LB]) hD.rs
 have o1:=hH.own (k:=(4,1)) (by simp[LB]) hD.ns
 have hDu:=hD.up (show K<=K+1 by omega)
 have hn0:0<n:=by omega
 have ry1:kG (V (4,1))=true:=dq o1.rows (i:=0) (by simpa using hn0)
 have lrow:((List.range n).map fun i=>[AV.int .i64 (c i),V (1,i),V (2,i),V (3,i)]).length=n:=by simp
 have hrowJ:((List.range n).map fun i=>[AV.int .i64 (c i),V (1,i),V (2,i),V (3,i)])[J]?=some [AV.int .i64 (c J),V (1,J),V (2,J),V (3,J)]:=by simp[hJ]
 have hnx:=hH.nx
 have hq:=hD.f 2 J (by omega) (by omega) hJ
 have hkL:LB R n (2,J):=.inr (.inl ⟨by simp,by simp,hJ⟩)
 have hown:=hH.own hkL hq.1
 have hlk:=hq.2
 have hnx:=hH.nx
 simp only[sx,sy,sf,SO.run,↓reduceIte,Nat.reduceEqDiff,h2,h11,f0,dK ry1,o1.rows,lrow,hJ,ry1,hrowJ,Option.isSome_some,Option.getD_some]
 refine Hp.app (k:=(2,J)) (hH.step (by simp;try omega) (fun i hi hi2=>?_)) hkL hq.1 (new:=[[.int .i64 (x.2.2.2)]]) (by simp[sx,sy]) (by simp[aZ];omega) fun v1 ga hHa na fra fsa lga vca vta=>?_
 ·simp[H.get_put];try omega
 simp only[sx,sy] at na fra fsa lga
 have o1a:=hHa.own (k:=(4,1)) (by simp[LB]) (by rw[ae _ _ (by simp)];exact hD.ns)
 rw[ae _ _ (by simp)] at o1a
 have hNr:=o1a.rows
 simp only[sx,sy,sf,SO.run,↓reduceIte,Nat.reduceEqDiff,dK ry1,fW ry1]
 have vv:V (4,1)=ups V (2,J) v1 (4,1):=(ae _ _ (by simp)).symm
 rw[vv]
 refine Hp.put (k:=(4,1)) (row:=[.int .i64 (c J),V (1,J),V (2,J),V (3,J)]) (row':=[.int .i64 (c J),V (1,J),v1,V (3,J)]) (hHa.same (by simp) (by simp;try omega)) (by simp[LB]) (by rw[ae _ _ (by simp)];exact hD.ns) hrowJ (by rw[vca];rfl) vta (by rw[vca];rfl) fun gb hHb nb frb _=>?_
 try simp only[sy] at nb frb
 have hDb:BD (K+1) R n (ups V (2,J) v1) (ups (ups E (2,J) (.sl 1 ((F 2 J).map ci++[[.int .i64 (x.2.2.2)]]))) (4,1) (.sl 4 (((List.range n).map fun i=>[.int .i64 (c i),V (1,i),V (2,i),V (3,i)]).set J [.int .i64 (c J),V (1,J),v1,V (3,J)]))) Rt c
   (fun q'=>if q'=2 then ups (F 2) J (F 2 J++[x.2.2.2]) else F q'):=by
  refine ⟨fun i hi=>?_,fun q' i a1 a2 hi=>?_,?_,?_⟩
  ·rw[ae _ _ (by simp),ae _ _ (by simp)];exact ⟨(hD.r i hi).1,by have:=(hD.r i hi).2;omega⟩
  ·have hf:=hD.f q' i a1 a2 hi
   rw[ae _ _ (by simp;omega)]
   by_cases e:(q',i)=(2,J)
   ·obtain ⟨rfl,rfl⟩:=Prod.mk.inj e
    rw[ax,if_pos rfl,ax]
    exact ⟨by simp[ci],by simp;omega⟩
   ·rw[ae _ _ e]
    split
    ·rename_i e2;subst e2
     rw[ae _ _ (fun e3=>e (by rw[e3]))];exact ⟨hf.1,by omega⟩
    ·exact ⟨hf.1,by omega⟩
  ·rw[ae _ _ (by simp),ae _ _ (by simp),hD.rs]
   exact congrArg (En.sl 1) (List.map_congr_left fun i _=>by rw[ae _ _ (by simp)])
  ·rw[ax]
   refine congrArg (En.sl 4) ?_
   exact wM (fun i=>by by_cases e:i=J;(· subst e;rw[if_pos rfl,ax,ae V (k:=(2,i)) (j:=(1,i)) _ (by simp),ae V (k:=(2,i)) (j:=(3,i)) _ (by simp)]);(· rw[if_neg e,ae V (k:=(2,J)) (j:=(1,i)) _ (by simp[e]),ae V (k:=(2,J)) (j:=(2,i)) _ (by simp[e]),ae V (k:=(2,J)) (j:=(3,i)) _ (by simp[e])]))
 obtain ⟨s1,s2,s3⟩:=hDb.sl hHb (by omega) (by omega) (by omega)
 rw[ae _ _ (by simp)] at s1 s2
 have g1e:gb.h.get 1=.cells 3 [[.int .i64 gr,V (4,0),V (4,1)]] 0 false false:=by rw[frb 1 (by omega),fra 1 (by omega)];simp[f1]<;>omega
 have g2e:gb.h.get 2=.cells 3 [[.int .i64 0,.nils,.nils]] 0 false false:=by rw[frb 2 (by omega),fra 2 (by omega)];simp[f2]<;>omega
 simp only[sy]
 refine ⟨?_,?_⟩
 ·simp only[List.reverse_cons,List.reverse_nil,List.nil_append,List.cons_append]
  refine aX [false,false,false,false,false,false,false,true,true,false,false,true] [(0,7),(1,7),(2,7),(3,7),(4,7),(0,8)] (by simp[All2,au,aF]) (by decide) ?_
  rintro p hp x y hx hy
  try simp only[List.mem_cons,List.not_mem_nil,or_false] at hp
  have ro:=hown.refs_lt
  have ro1:=o1.refs_lt
  rcases hp with rfl | rfl | rfl | rfl | rfl | rfl<;>(simp at hx hy;subst hx;subst hy;refine dG rfl rfl rfl rfl ?_ ?_ ?_<;>simp[au,aF,bM ry1,ae]<;>first | omega | (intro i' hi';have:=ro1 i' hi';omega) | (intro i' hi';rcases lga i' hi' with h | h<;>first | omega | simp at h) | skip)
 exact fin _ _ gr _ _ _ _ (by simp[sx,h3]) (by simp[sx,h4]) (by simpa using g1e) (by simpa using g2e) (s1.heap (by simp)) (s2.heap (by simp)) (s3 gr)
theorem K1 {d K:Nat}{x:jg}{gr:Int}{R n J:Nat}{Rt:Nat->List Int}{c:Nat->Int}{F:Nat->Nat->List Int}(hK:K<=1000000)(hR:R<=K)(hn:n<=K)(hJ:J<n){t:T}{g':G}{V:Ky->AV}{E:Ky->En}{Qk:QT}
  (h2:tat t 2=.hptr 0 0 0 0) (h3:tat t 3=.hptr 1 0 0 0) (h4:tat t 4=.hptr 2 0 0 0) (h5:tat t 5=V (4,0)) (h8:tat t 8=V (4,1)) (h11:tat t 11=ec 4 (V (4,1)) J 0) (hH:Hp g' 3 (LB R n) V E)
  (f0:g'.h.get 0=.cells 4 [[u8v x.1,u8v x.2.1,u8v x.2.2.1,.int .i64 x.2.2.2]] 0 false false) (f1:g'.h.get 1=.cells 3 [[.int .i64 gr,V (4,0),V (4,1)]] 0 false false) (f2:g'.h.get 2=.cells 3 [[.int .i64 0,.nils,.nils]] 0 false false) (hD:BD K R n V E Rt c F)
  (fin:∀t g gr rv nv rts nds,tat t 3=.hptr 1 0 0 0->tat t 4=.hptr 2 0 0 0->g.h.get 1=.cells 3 [[.int .i64 gr,rv,nv]] 0 false false->g.h.get 2=.cells 3 [[.int .i64 0,.nils,.nils]] 0 false false->SlR P3 0 g.h rts rv->SlR P3 0 g.h nds nv->Bnd (K+1) ⟨gr,rts,nds⟩->Qk .norm t [] g) :
  wp C0 d none (.ops [o 214 (.mv (.t 11)),o 215 (.mv (.t 11)),o 216 (.nilc (.t 215)),o 217 (.fad 3 (.t 216)),o 218 (.load false 1 (.t 217)),o 219 (.bsl 1 1 [.int .i64 0] [0] [.k (.int .i64 0)]),o 220 (.app 1 8 (.t 218) (.t 219)),o 221 (.nilc (.t 214)),o 222 (.fad 3 (.t 221)),oz (.store 1 (.t 222) (.t 220))]) Qk t [] g':=by
 have o0:=hH.own (k:=(4,0)) (by simp[LB]) hD.rs
 have o1:=hH.own (k:=(4,1)) (by simp[LB]) hD.ns
 have hDu:=hD.up (show K<=K+1 by omega)
 have hn0:0<n:=by omega
 have ry1:kG (V (4,1))=true:=dq o1.rows (i:=0) (by simpa using hn0)
 have lrow:((List.range n).map fun i=>[AV.int .i64 (c i),V (1,i),V (2,i),V (3,i)]).length=n:=by simp
 have hrowJ:((List.range n).map fun i=>[AV.int .i64 (c i),V (1,i),V (2,i),V (3,i)])[J]?=some [AV.int .i64 (c J),V (1,J),V (2,J),V (3,J)]:=by simp[hJ]
 have hnx:=hH.nx
 have hq:=hD.f 3 J (by omega) (by omega) hJ
 have hkL:LB R n (3,J):=.inr (.inl ⟨by simp,by simp,hJ⟩)
 have hown:=hH.own hkL hq.1
 have hlk:=hq.2
 have hnx:=hH.nx
 simp only[sx,sy,SO.run,↓reduceIte,Nat.reduceEqDiff,h11,dK ry1,o1.rows,lrow,hJ,ry1,hrowJ,Option.isSome_some,Option.getD_some]
 refine Hp.app (k:=(3,J)) (hH.step (by simp;try omega) (fun i hi hi2=>?_)) hkL hq.1 (new:=[[.int .i64 (0)]]) (by simp[sx,sy]) (by simp[aZ];omega) fun v1 ga hHa na fra fsa lga vca vta=>?_
 ·simp[H.get_put];try omega
 simp only[sx,sy] at na fra fsa lga
 have o1a:=hHa.own (k:=(4,1)) (by simp[LB]) (by rw[ae _ _ (by simp)];exact hD.ns)
 rw[ae _ _ (by simp)] at o1a
 have hNr:=o1a.rows
 simp only[sx,sy,SO.run,↓reduceIte,Nat.reduceEqDiff,dK ry1,fW ry1]
 have vv:V (4,1)=ups V (3,J) v1 (4,1):=(ae _ _ (by simp)).symm
 rw[vv]
 refine Hp.put (k:=(4,1)) (row:=[.int .i64 (c J),V (1,J),V (2,J),V (3,J)]) (row':=[.int .i64 (c J),V (1,J),V (2,J),v1]) (hHa.same (by simp) (by simp;try omega)) (by simp[LB]) (by rw[ae _ _ (by simp)];exact hD.ns) hrowJ (by rw[vca];rfl) vta (by rw[vca];rfl) fun gb hHb nb frb _=>?_
 try simp only[sx,sy] at nb frb
 have hDb:BD (K+1) R n (ups V (3,J) v1) (ups (ups E (3,J) (.sl 1 ((F 3 J).map ci++[[.int .i64 (0)]]))) (4,1) (.sl 4 (((List.range n).map fun i=>[.int .i64 (c i),V (1,i),V (2,i),V (3,i)]).set J [.int .i64 (c J),V (1,J),V (2,J),v1]))) Rt c
   (fun q'=>if q'=3 then ups (F 3) J (F 3 J++[0]) else F q'):=by
  refine ⟨fun i hi=>?_,fun q' i a1 a2 hi=>?_,?_,?_⟩
  ·rw[ae _ _ (by simp),ae _ _ (by simp)];exact ⟨(hD.r i hi).1,by have:=(hD.r i hi).2;omega⟩
  ·have hf:=hD.f q' i a1 a2 hi
   rw[ae _ _ (by simp;omega)]
   by_cases e:(q',i)=(3,J)
   ·obtain ⟨rfl,rfl⟩:=Prod.mk.inj e
    rw[ax,if_pos rfl,ax]
    exact ⟨by simp[ci],by simp;omega⟩
   ·rw[ae _ _ e]
    split
    ·rename_i e2;subst e2
     rw[ae _ _ (fun e3=>e (by rw[e3]))];exact ⟨hf.1,by omega⟩
    ·exact ⟨hf.1,by omega⟩
  ·rw[ae _ _ (by simp),ae _ _ (by simp),hD.rs]
   exact congrArg (En.sl 1) (List.map_congr_left fun i _=>by rw[ae _ _ (by simp)])
  ·rw[ax]
   refine congrArg (En.sl 4) ?_
   exact wM (fun i=>by by_cases e:i=J;(· subst e;rw[if_pos rfl,ax,ae V (k:=(3,i)) (j:=(1,i)) _ (by simp),ae V (k:=(3,i)) (j:=(2,i)) _ (by simp)]);(· rw[if_neg e,ae V (k:=(3,J)) (j:=(1,i)) _ (by simp[e]),ae V (k:=(3,J)) (j:=(2,i)) _ (by simp[e]),ae V (k:=(3,J)) (j:=(3,i)) _ (by simp[e])]))
 obtain ⟨s1,s2,s3⟩:=hDb.sl hHb (by omega) (by omega) (by omega)
 rw[ae _ _ (by simp)] at s1 s2
 have g1e:gb.h.get 1=.cells 3 [[.int .i64 gr,V (4,0),V (4,1)]] 0 false false:=by rw[frb 1 (by omega),fra 1 (by omega)];simp[f1]<;>omega
 have g2e:gb.h.get 2=.cells 3 [[.int .i64 0,.nils,.nils]] 0 false false:=by rw[frb 2 (by omega),fra 2 (by omega)];simp[f2]<;>omega
 try simp only[sx]
 exact fin _ _ gr _ _ _ _ (by simp[sx,h3]) (by simp[sx,h4]) (by simpa using g1e) (by simpa using g2e) (s1.heap (by simp)) (s2.heap (by simp)) (s3 gr)
theorem Ld {d K:Nat}{x:jg}{gr:Int}{R n J:Nat}{Rt:Nat->List Int}{c:Nat->Int}{F:Nat->Nat->List Int}(hK:K<=1000000)(hR:R<=K)(hn:n<=K)(hJ:J<n){t:T}{g':G}{V:Ky->AV}{E:Ky->En}{Qk:QT}
  (h2:tat t 2=.hptr 0 0 0 0) (h3:tat t 3=.hptr 1 0 0 0) (h4:tat t 4=.hptr 2 0 0 0) (h5:tat t 5=V (4,0)) (h8:tat t 8=V (4,1)) (h11:tat t 11=ec 4 (V (4,1)) J 0) (hH:Hp g' 3 (LB R n) V E)
  (f0:g'.h.get 0=.cells 4 [[u8v x.1,u8v x.2.1,u8v x.2.2.1,.int .i64 x.2.2.2]] 0 false false) (f1:g'.h.get 1=.cells 3 [[.int .i64 gr,V (4,0),V (4,1)]] 0 false false) (f2:g'.h.get 2=.cells 3 [[.int .i64 0,.nils,.nils]] 0 false false) (hD:BD K R n V E Rt c F)
  (fin:∀t g gr rv nv rts nds,tat t 3=.hptr 1 0 0 0->tat t 4=.hptr 2 0 0 0->g.h.get 1=.cells 3 [[.int .i64 gr,rv,nv]] 0 false false->g.h.get 2=.cells 3 [[.int .i64 0,.nils,.nils]] 0 false false->SlR P3 0 g.h rts rv->SlR P3 0 g.h nds nv->Bnd (K+1) ⟨gr,rts,nds⟩->Qk .norm t [] g) :
  wp C0 d none (.ops [o 157 (.mv (.t 11)),o 158 (.fad 3 (.t 2)),o 159 (.load false 1 (.t 158)),o 160 (.nilc (.t 157)),o 161 (.fad 0 (.t 160)),oz (.store 1 (.t 161) (.t 159))]) Qk t [] g':=by
 have o0:=hH.own (k:=(4,0)) (by simp[LB]) hD.rs
 have o1:=hH.own (k:=(4,1)) (by simp[LB]) hD.ns
 have hDu:=hD.up (show K<=K+1 by omega)
 have hn0:0<n:=by omega
 have ry1:kG (V (4,1))=true:=dq o1.rows (i:=0) (by simpa using hn0)
 have lrow:((List.range n).map fun i=>[AV.int .i64 (c i),V (1,i),V (2,i),V (3,i)]).length=n:=by simp
 have hrowJ:((List.range n).map fun i=>[AV.int .i64 (c i),V (1,i),V (2,i),V (3,i)])[J]?=some [AV.int .i64 (c J),V (1,J),V (2,J),V (3,J)]:=by simp[hJ]
 have hnx:=hH.nx
 simp only[sx,sy,SO.run,↓reduceIte,Nat.reduceEqDiff,h2,h11,f0,dK ry1,fW ry1]
 refine Hp.put (k:=(4,1)) (row:=[.int .i64 (c J),V (1,J),V (2,J),V (3,J)]) (row':=[.int .i64 x.2.2.2,V (1,J),V (2,J),V (3,J)]) hH (by simp[LB]) hD.ns hrowJ rfl rfl rfl fun gb hHb nb frb _=>?_
 have hDb:BD (K+1) R n V (ups E (4,1) (.sl 4 (((List.range n).map fun i=>[.int .i64 (c i),V (1,i),V (2,i),V (3,i)]).set J [.int .i64 x.2.2.2,V (1,J),V (2,J),V (3,J)]))) Rt (ups c J x.2.2.2) F:=by
  refine ⟨fun i hi=>?_,fun q' i a1 a2 hi=>?_,?_,?_⟩
  ·rw[ae _ _ (by simp)];exact hDu.r i hi
  ·rw[ae _ _ (by simp;omega)];exact hDu.f q' i a1 a2 hi
  ·rw[ae _ _ (by simp)];exact hD.rs
  ·rw[ax]
   refine congrArg (En.sl 4) ?_
   exact wM (fun i=>by by_cases e:i=J;(· subst e;rw[if_pos rfl,ax]);(· rw[if_neg e,ae _ _ e]))
 obtain ⟨s1,s2,s3⟩:=hDb.sl hHb (by omega) (by omega) (by omega)
 have g1e:gb.h.get 1=.cells 3 [[.int .i64 gr,V (4,0),V (4,1)]] 0 false false:=by rw[frb 1 (by omega),f1]
 have g2e:gb.h.get 2=.cells 3 [[.int .i64 0,.nils,.nils]] 0 false false:=by rw[frb 2 (by omega),f2]
 simp only[sx]
 exact fin _ _ gr _ _ _ _ (by simp[sx,h3]) (by simp[sx,h4]) g1e g2e s1 s2 (s3 gr)
theorem K8 {d K:Nat}{x:jg}{gr:Int}{R n J:Nat}{Rt:Nat->List Int}{c:Nat->Int}{F:Nat->Nat->List Int}(hK:K<=1000000)(hR:R<=K)(hn:n<=K)(hJ:J<n){t:T}{g':G}{V:Ky->AV}{E:Ky->En}{Qk:QT}
  (h2:tat t 2=.hptr 0 0 0 0) (h3:tat t 3=.hptr 1 0 0 0) (h4:tat t 4=.hptr 2 0 0 0) (h5:tat t 5=V (4,0)) (h8:tat t 8=V (4,1)) (h11:tat t 11=ec 4 (V (4,1)) J 0) (hH:Hp g' 3 (LB R n) V E)
  (f0:g'.h.get 0=.cells 4 [[u8v x.1,u8v x.2.1,u8v x.2.2.1,.int .i64 x.2.2.2]] 0 false false) (f1:g'.h.get 1=.cells 3 [[.int .i64 gr,V (4,0),V (4,1)]] 0 false false) (f2:g'.h.get 2=.cells 3 [[.int .i64 0,.nils,.nils]] 0 false false) (hD:BD K R n V E Rt c F)
  (fin:∀t g gr rv nv rts nds,tat t 3=.hptr 1 0 0 0->tat t 4=.hptr 2 0 0 0->g.h.get 1=.cells 3 [[.int .i64 gr,rv,nv]] 0 false false->g.h.get 2=.cells 3 [[.int .i64 0,.nils,.nils]] 0 false false->SlR P3 0 g.h rts rv->SlR P3 0 g.h nds nv->Bnd (K+1) ⟨gr,rts,nds⟩->Qk .norm t [] g) :
  wp C0 d none (.seq (.ops [o 190 (.mv (.t 11)),o 191 (.nilc (.t 190)),o 192 (.fad 3 (.t 191)),o 193 (.load false 1 (.t 192)),o 194 (.len .slice (.t 193)),o 195 (.bin .gtr (.t 194) (.k (.int .i64 0)))]) (.cond (.t 195) (.feet [0,1,3,7,0,16,48,0,128,384,896,1920,4080,0,8192,32767,65535] [o 196 (.mv (.t 11)),o 197 (.nilc (.t 196)),o 198 (.fad 3 (.t 197)),o 199 (.load false 1 (.t 198)),o 200 (.fad 2 (.t 2)),o 201 (.load false 1 (.t 200)),o 202 (.conv .i64 (.t 201)),o 203 (.mv (.t 11)),o 204 (.nilc (.t 203)),o 205 (.fad 3 (.t 204)),o 206 (.load false 1 (.t 205)),o 207 (.len .slice (.t 206)),o 208 (.bin .rem (.t 202) (.t 207)),o 209 (.fad 3 (.t 2)),o 210 (.load false 1 (.t 209)),o 211 (.ixs 1 (.t 199) (.t 208)),oz (.store 1 (.t 211) (.t 210))]) (.skip))) Qk t [] g':=by
 have o0:=hH.own (k:=(4,0)) (by simp[LB]) hD.rs
 have o1:=hH.own (k:=(4,1)) (by simp[LB]) hD.ns
 have hDu:=hD.up (show K<=K+1 by omega)
 have hn0:0<n:=by omega
 have ry1:kG (V (4,1))=true:=dq o1.rows (i:=0) (by simpa using hn0)
 have lrow:((List.range n).map fun i=>[AV.int .i64 (c i),V (1,i),V (2,i),V (3,i)]).length=n:=by simp
 have hrowJ:((List.range n).map fun i=>[AV.int .i64 (c i),V (1,i),V (2,i),V (3,i)])[J]?=some [AV.int .i64 (c J),V (1,J),V (2,J),V (3,J)]:=by simp[hJ]
 have hnx:=hH.nx
 have k8:x.2.2.1.toNat<256:=x.2.2.1.toNat_lt
 have hq:=hD.f 3 J (by omega) (by omega) hJ
 have hkL:LB R n (3,J):=.inr (.inl ⟨by simp,by simp,hJ⟩)
 have hown:=hH.own hkL hq.1
 have lo:=bh hown.rows
 rw[List.length_map] at lo
 simp only[sx,sy,SO.run,↓reduceIte,h11,dK ry1,fW ry1,o1.rows,lrow,hJ,hrowJ,lo,Option.isSome_some,Option.getD_some]
 refine aw (fun hb=>?_) (fun hb=>?_)
 ·have hpos:0<(F 3 J).length:=by simpa using hb
  have em:((x.2.2.1.toNat:Int) % ((F 3 J).length:Int))=((x.2.2.1.toNat % (F 3 J).length:Nat):Int):=by omega
  have hidx:x.2.2.1.toNat % (F 3 J).length<(F 3 J).length:=Nat.mod_lt _ hpos
  obtain ⟨idx,hie⟩:∃idx,idx=x.2.2.1.toNat % (F 3 J).length:=⟨_,rfl⟩
  rw[<-hie] at em hidx
  ·simp only[sx,sy,sf,SO.run,↓reduceIte,Nat.reduceEqDiff,h2,h11,f0,dK ry1,fW ry1,o1.rows,lrow,hJ,hrowJ,lo,u8v,an (show -9223372036854775808<=(x.2.2.1.toNat:Int) by omega) (show (x.2.2.1.toNat:Int)<9223372036854775808 by omega),bC .i64 (show (0:Int)<=(x.2.2.1.toNat:Int) by omega) (show 0<((F 3 J).length:Int) by omega),em,hown.rows,List.length_map,hidx,Option.isSome_some,Option.getD_some]
   refine Hp.put (k:=(3,J)) (row:=ci ((F 3 J)[idx]'hidx)) (row':=ci x.2.2.2) (hH.same (by simp) (by simp;try omega)) hkL hq.1 (by rw[List.getElem?_map,List.getElem?_eq_getElem hidx];rfl) rfl rfl rfl fun gb hHb nb frb _=>?_
   try simp only[sy] at nb frb
   have hDb:BD (K+1) R n V (ups E (3,J) (.sl 1 (((F 3 J).map ci).set idx (ci x.2.2.2)))) Rt c (fun q'=>if q'=3 then ups (F 3) J ((F 3 J).set idx x.2.2.2) else F q'):=by
    refine ⟨fun i hi=>?_,fun q' i a1 a2 hi=>?_,?_,?_⟩
    ·rw[ae _ _ (by simp)];exact hDu.r i hi
    ·by_cases e:(q',i)=(3,J)
     ·obtain ⟨rfl,rfl⟩:=Prod.mk.inj e
      rw[ax,if_pos rfl,ax]
      exact ⟨by rw[List.map_set],by rw[List.length_set];exact (hDu.f 3 i a1 a2 hi).2⟩
     ·rw[ae _ _ e]
      have hf:=hDu.f q' i a1 a2 hi
      split
      ·rename_i e2;subst e2
       rw[ae _ _ (fun e3=>e (by rw[e3]))];exact hf
      ·exact hf
    ·rw[ae _ _ (by simp)];exact hD.rs
    ·rw[ae _ _ (by simp)];exact hD.ns
   obtain ⟨s1,s2,s3⟩:=hDb.sl hHb (by omega) (by omega) (by omega)
   have g1e:gb.h.get 1=.cells 3 [[.int .i64 gr,V (4,0),V (4,1)]] 0 false false:=by rw[frb 1 (by omega)];simp[f1]
   have g2e:gb.h.get 2=.cells 3 [[.int .i64 0,.nils,.nils]] 0 false false:=by rw[frb 2 (by omega)];simp[f2]
   simp only[sy]
   refine ⟨?_,?_⟩
   ·simp only[List.reverse_cons,List.reverse_nil,List.nil_append,List.cons_append]
    exact aX [false,false,false,false,false,false,false,false,false,false,false,false,false,false,false,false,true] [] (by simp[All2,au,aF]) (by decide) (by simp)
   exact fin _ _ gr _ _ _ _ (by simp[sx,h3]) (by simp[sx,h4]) (by simpa using g1e) (by simpa using g2e) (s1.heap (by simp)) (s2.heap (by simp)) (s3 gr)
 ·obtain ⟨s1,s2,s3⟩:=hDu.sl hH (by omega) (by omega) (by omega)
  simp only[sx]
  exact fin _ _ gr _ _ _ _ (by simp[sx,h3]) (by simp[sx,h4]) f1 f2 s1 s2 (s3 gr)
theorem K4 {d K:Nat}{x:jg}{gr:Int}{R n J:Nat}{Rt:Nat->List Int}{c:Nat->Int}{F:Nat->Nat->List Int}(hK:K<=1000000)(hR:R<=K)(hn:n<=K)(hJ:J<n){t:T}{g':G}{V:Ky->AV}{E:Ky->En}{Qk:QT}
  (h2:tat t 2=.hptr 0 0 0 0) (h3:tat t 3=.hptr 1 0 0 0) (h4:tat t 4=.hptr 2 0 0 0) (h5:tat t 5=V (4,0)) (h8:tat t 8=V (4,1)) (h11:tat t 11=ec 4 (V (4,1)) J 0) (hH:Hp g' 3 (LB R n) V E)
  (f0:g'.h.get 0=.cells 4 [[u8v x.1,u8v x.2.1,u8v x.2.2.1,.int .i64 x.2.2.2]] 0 false false) (f1:g'.h.get 1=.cells 3 [[.int .i64 gr,V (4,0),V (4,1)]] 0 false false) (f2:g'.h.get 2=.cells 3 [[.int .i64 0,.nils,.nils]] 0 false false) (hD:BD K R n V E Rt c F)
  (fin:∀t g gr rv nv rts nds,tat t 3=.hptr 1 0 0 0->tat t 4=.hptr 2 0 0 0->g.h.get 1=.cells 3 [[.int .i64 gr,rv,nv]] 0 false false->g.h.get 2=.cells 3 [[.int .i64 0,.nils,.nils]] 0 false false->SlR P3 0 g.h rts rv->SlR P3 0 g.h nds nv->Bnd (K+1) ⟨gr,rts,nds⟩->Qk .norm t [] g) :
  wp C0 d none (.seq (.ops [o 120 (.mv (.t 5)),o 121 (.len .slice (.t 120)),o 122 (.bin .gtr (.t 121) (.k (.int .i64 0))),o 123 (.mv (.t 122)),og 124 123 true (.mv (.t 5)),og 125 123 true (.fad 1 (.t 2)),og 126 123 true (.load false 1 (.t 125)),og 127 123 true (.conv .i64 (.t 126)),og 128 123 true (.mv (.t 5)),og 129 123 true (.len .slice (.t 128)),og 130 123 true (.bin .rem (.t 127) (.t 129)),og 131 123 true (.ixs 1 (.t 124) (.t 130)),og 132 123 true (.load false 1 (.t 131)),og 133 123 true (.len .slice (.t 132)),og 134 123 true (.bin .gtr (.t 133) (.k (.int .i64 0))),o 135 (.pick (.t 123) (.t 134) (.k (.bool false)))]) (.cond (.t 135) (.seq (.ops [o 136 (.mv (.t 5)),o 137 (.fad 1 (.t 2)),o 138 (.load false 1 (.t 137)),o 139 (.conv .i64 (.t 138)),o 140 (.mv (.t 5)),o 141 (.len .slice (.t 140)),o 142 (.bin .rem (.t 139) (.t 141)),o 143 (.ixs 1 (.t 136) (.t 142)),o 144 (.load false 1 (.t 143)),o 12 (.mv (.t 144))]) (.feet [0,0,2,6,0,16,62,0,128,511,1023] [o 145 (.mv (.t 12)),o 146 (.fad 2 (.t 2)),o 147 (.load false 1 (.t 146)),o 148 (.conv .i64 (.t 147)),o 149 (.mv (.t 12)),o 150 (.len .slice (.t 149)),o 151 (.bin .rem (.t 148) (.t 150)),o 152 (.fad 3 (.t 2)),o 153 (.load false 1 (.t 152)),o 154 (.ixs 1 (.t 145) (.t 151)),oz (.store 1 (.t 154) (.t 153))])) (.skip))) Qk t [] g':=by
 have o0:=hH.own (k:=(4,0)) (by simp[LB]) hD.rs
 have o1:=hH.own (k:=(4,1)) (by simp[LB]) hD.ns
 have hDu:=hD.up (show K<=K+1 by omega)
 have hn0:0<n:=by omega
 have ry1:kG (V (4,1))=true:=dq o1.rows (i:=0) (by simpa using hn0)
 have lrow:((List.range n).map fun i=>[AV.int .i64 (c i),V (1,i),V (2,i),V (3,i)]).length=n:=by simp
 have hrowJ:((List.range n).map fun i=>[AV.int .i64 (c i),V (1,i),V (2,i),V (3,i)])[J]?=some [AV.int .i64 (c J),V (1,J),V (2,J),V (3,J)]:=by simp[hJ]
 have hnx:=hH.nx
 have k8:x.2.2.1.toNat<256:=x.2.2.1.toNat_lt
 have a8:x.2.1.toNat<256:=x.2.1.toNat_lt
 have len0:=bh o0.rows
 rw[List.length_map,List.length_range] at len0
 have rlen:((List.range R).map fun i=>[V (0,i)]).length=R:=by simp
 have stay:∀t,tat t 3=.hptr 1 0 0 0->tat t 4=.hptr 2 0 0 0->Qk .norm t [] g':=fun t h3 h4=>by
  obtain ⟨s1,s2,s3⟩:=hDu.sl hH (by omega) (by omega) (by omega)
  exact fin _ _ gr _ _ _ _ h3 h4 f1 f2 s1 s2 (s3 gr)
 by_cases hR0:R=0
 ·subst hR0
  have hq0:decide ((0:Int)<((0:Nat):Int))=false:=by decide
  simp only[sx,SO.run,↓reduceIte,Nat.reduceEqDiff,h5,len0,hq0]
  exact stay _ (by simp[sx,h3]) (by simp[sx,h4])
 have hq0:decide ((0:Int)<(R:Int))=true:=by simp;omega
 have em0:((x.2.1.toNat:Int) % (R:Int))=((x.2.1.toNat % R:Nat):Int):=by omega
 have hI:x.2.1.toNat % R<R:=Nat.mod_lt _ (by omega)
 obtain ⟨I,hIe⟩:∃I,I=x.2.1.toNat % R:=⟨_,rfl⟩
 rw[<-hIe] at em0 hI
 have hq:=hD.r I hI
 have hkL:LB R n (0,I):=.inl ⟨rfl,hI⟩
 have hown:=hH.own hkL hq.1
 have lo:=bh hown.rows
 rw[List.length_map] at lo
 have hrI:((List.range R).map fun i=>[V (0,i)])[I]?=some [V (0,I)]:=by simp[hI]
 simp only[sx,sy,SO.run,↓reduceIte,Nat.reduceEqDiff,h2,h5,f0,len0,hq0,u8v,an (show -9223372036854775808<=(x.2.1.toNat:Int) by omega) (show (x.2.1.toNat:Int)<9223372036854775808 by omega),bC .i64 (show (0:Int)<=(x.2.1.toNat:Int) by omega) (show 0<(R:Int) by omega),em0,o0.rows,rlen,hI,hrI,lo,Option.isSome_some,Option.getD_some]
 refine aw (fun hb=>?_) (fun hb=>?_)
 ·have hpos:0<(Rt I).length:=by simpa using hb
  have em:((x.2.2.1.toNat:Int) % ((Rt I).length:Int))=((x.2.2.1.toNat % (Rt I).length:Nat):Int):=by omega
  have hidx:x.2.2.1.toNat % (Rt I).length<(Rt I).length:=Nat.mod_lt _ hpos
  obtain ⟨idx,hie⟩:∃idx,idx=x.2.2.1.toNat % (Rt I).length:=⟨_,rfl⟩
  rw[<-hie] at em hidx
  ·simp only[sx,sy,sf,SO.run,↓reduceIte,Nat.reduceEqDiff,h2,h5,f0,len0,u8v,an (show -9223372036854775808<=(x.2.1.toNat:Int) by omega) (show (x.2.1.toNat:Int)<9223372036854775808 by omega),bC .i64 (show (0:Int)<=(x.2.1.toNat:Int) by omega) (show 0<(R:Int) by omega),em0,o0.rows,rlen,hI,hrI,lo,an (show -9223372036854775808<=(x.2.2.1.toNat:Int) by omega) (show (x.2.2.1.toNat:Int)<9223372036854775808 by omega),bC .i64 (show (0:Int)<=(x.2.2.1.toNat:Int) by omega) (show 0<((Rt I).length:Int) by omega),em,hown.rows,List.length_map,hidx,Option.isSome_some,Option.getD_some]
   refine Hp.put (k:=(0,I)) (row:=ci ((Rt I)[idx]'hidx)) (row':=ci x.2.2.2) (hH.same (by simp) (by simp;try omega)) hkL hq.1 (by rw[List.getElem?_map,List.getElem?_eq_getElem hidx];rfl) rfl rfl rfl fun gb hHb nb frb _=>?_
   try simp only[sy] at nb frb
   have hDb:BD (K+1) R n V (ups E (0,I) (.sl 1 (((Rt I).map ci).set idx (ci x.2.2.2)))) (ups Rt I ((Rt I).set idx x.2.2.2)) c F:=by
    refine ⟨fun i hi=>?_,fun q' i a1 a2 hi=>?_,?_,?_⟩
    ·by_cases e:i=I
     ·subst e
      rw[ax,ax]
      exact ⟨by rw[List.map_set],by rw[List.length_set];exact (hDu.r i hi).2⟩
     ·rw[ae _ _ (by simpa using e),ae _ _ e];exact hDu.r i hi
    ·rw[ae _ _ (by simp;omega)];exact hDu.f q' i a1 a2 hi
    ·rw[ae _ _ (by simp)];exact hD.rs
    ·rw[ae _ _ (by simp)];exact hD.ns
   obtain ⟨s1,s2,s3⟩:=hDb.sl hHb (by omega) (by omega) (by omega)
   have g1e:gb.h.get 1=.cells 3 [[.int .i64 gr,V (4,0),V (4,1)]] 0 false false:=by rw[frb 1 (by omega)];simp[f1]
   have g2e:gb.h.get 2=.cells 3 [[.int .i64 0,.nils,.nils]] 0 false false:=by rw[frb 2 (by omega)];simp[f2]
   simp only[sy]
   refine ⟨?_,?_⟩
   ·simp only[List.reverse_cons,List.reverse_nil,List.nil_append,List.cons_append]
    exact aX [false,false,false,false,false,false,false,false,false,false,true] [] (by simp[All2,au,aF]) (by decide) (by simp)
   exact fin _ _ gr _ _ _ _ (by simp[sx,h3]) (by simp[sx,h4]) (by simpa using g1e) (by simpa using g2e) (s1.heap (by simp)) (s2.heap (by simp)) (s3 gr)
 ·simp only[sx]
  exact stay _ (by simp[sx,h3]) (by simp[sx,h4])
theorem K_ {d K:Nat}{x:jg}{gr:Int}{R n J:Nat}{Rt:Nat->List Int}{c:Nat->Int}{F:Nat->Nat->List Int}(hK:K<=1000000)(hR:R<=K)(hn:n<=K)(hJ:J<n){t:T}{g':G}{V:Ky->AV}{E:Ky->En}{Qk:QT}
  (h2:tat t 2=.hptr 0 0 0 0) (h3:tat t 3=.hptr 1 0 0 0) (h4:tat t 4=.hptr 2 0 0 0) (h5:tat t 5=V (4,0)) (h8:tat t 8=V (4,1)) (h11:tat t 11=ec 4 (V (4,1)) J 0) (hH:Hp g' 3 (LB R n) V E)
  (f0:g'.h.get 0=.cells 4 [[u8v x.1,u8v x.2.1,u8v x.2.2.1,.int .i64 x.2.2.2]] 0 false false) (f1:g'.h.get 1=.cells 3 [[.int .i64 gr,V (4,0),V (4,1)]] 0 false false) (f2:g'.h.get 2=.cells 3 [[.int .i64 0,.nils,.nils]] 0 false false) (hD:BD K R n V E Rt c F)
  (fin:∀t g gr rv nv rts nds,tat t 3=.hptr 1 0 0 0->tat t 4=.hptr 2 0 0 0->g.h.get 1=.cells 3 [[.int .i64 gr,rv,nv]] 0 false false->g.h.get 2=.cells 3 [[.int .i64 0,.nils,.nils]] 0 false false->SlR P3 0 g.h rts rv->SlR P3 0 g.h nds nv->Bnd (K+1) ⟨gr,rts,nds⟩->Qk .norm t [] g) :
  wp C0 d none (.ops [o 225 (.mv (.t 11)),o 226 (.nilc (.t 225)),o 227 (.fad 1 (.t 226)),oz (.store 1 (.t 227) (.k (.nils)))]) Qk t [] g':=by
 have o0:=hH.own (k:=(4,0)) (by simp[LB]) hD.rs
 have o1:=hH.own (k:=(4,1)) (by simp[LB]) hD.ns
 have hDu:=hD.up (show K<=K+1 by omega)
 have hn0:0<n:=by omega
 have ry1:kG (V (4,1))=true:=dq o1.rows (i:=0) (by simpa using hn0)
 have lrow:((List.range n).map fun i=>[AV.int .i64 (c i),V (1,i),V (2,i),V (3,i)]).length=n:=by simp
 have hrowJ:((List.range n).map fun i=>[AV.int .i64 (c i),V (1,i),V (2,i),V (3,i)])[J]?=some [AV.int .i64 (c J),V (1,J),V (2,J),V (3,J)]:=by simp[hJ]
 have hnx:=hH.nx
 simp only[sx,sy,SO.run,↓reduceIte,h11,dK ry1,fW ry1]
 have hA:=(hH.sub (L':=fun k=>LB R n k/\k≠(1,J)) (fun k h=>h.1)).add (k:=(1,J)) (L':=LB R n) (v':=.nils) (e':=.sl 1 []) (fun h=>h.2 rfl) (.inl ⟨rfl,rfl⟩) (Nat.le_refl _) (fun _ _ _=>rfl) (fun i hi=>by cases hi) (fun k hk=>by by_cases e:k=(1,J);(· exact .inr e);(· exact .inl ⟨hk,e⟩))
 have vv:V (4,1)=ups V (1,J) .nils (4,1):=(ae _ _ (by simp)).symm
 rw[vv]
 refine Hp.put (k:=(4,1)) (row:=[.int .i64 (c J),V (1,J),V (2,J),V (3,J)]) (row':=[.int .i64 (c J),.nils,V (2,J),V (3,J)]) hA (by simp[LB]) (by rw[ae _ _ (by simp)];exact hD.ns) hrowJ rfl rfl rfl fun gb hHb nb frb _=>?_
 have hDb:BD (K+1) R n (ups V (1,J) .nils) (ups (ups E (1,J) (.sl 1 [])) (4,1) (.sl 4 (((List.range n).map fun i=>[.int .i64 (c i),V (1,i),V (2,i),V (3,i)]).set J [.int .i64 (c J),.nils,V (2,J),V (3,J)]))) Rt c
   (fun q'=>if q'=1 then ups (F 1) J [] else F q'):=by
  refine ⟨fun i hi=>?_,fun q' i a1 a2 hi=>?_,?_,?_⟩
  ·rw[ae _ _ (by simp),ae _ _ (by simp)];exact hDu.r i hi
  ·have hf:=hDu.f q' i a1 a2 hi
   rw[ae _ _ (by simp;omega)]
   by_cases e:(q',i)=(1,J)
   ·obtain ⟨rfl,rfl⟩:=Prod.mk.inj e
    rw[ax,if_pos rfl,ax]
    exact ⟨rfl,by simp⟩
   ·rw[ae _ _ e]
    split
    ·rename_i e2;subst e2
     rw[ae _ _ (fun e3=>e (by rw[e3]))];exact hf
    ·exact hf
  ·rw[ae _ _ (by simp),ae _ _ (by simp),hD.rs]
   exact congrArg (En.sl 1) (List.map_congr_left fun i _=>by rw[ae _ _ (by simp)])
  ·rw[ax]
   refine congrArg (En.sl 4) ?_
   exact wM (fun i=>by by_cases e:i=J;(· subst e;rw[if_pos rfl,ax,ae V (k:=(1,i)) (j:=(2,i)) _ (by simp),ae V (k:=(1,i)) (j:=(3,i)) _ (by simp)]);(· rw[if_neg e,ae V (k:=(1,J)) (j:=(1,i)) _ (by simp[e]),ae V (k:=(1,J)) (j:=(2,i)) _ (by simp[e]),ae V (k:=(1,J)) (j:=(3,i)) _ (by simp[e])]))
 obtain ⟨s1,s2,s3⟩:=hDb.sl hHb (by omega) (by omega) (by omega)
 rw[ae _ _ (by simp)] at s1 s2
 have g1e:gb.h.get 1=.cells 3 [[.int .i64 gr,V (4,0),V (4,1)]] 0 false false:=by rw[frb 1 (by omega),f1]
 have g2e:gb.h.get 2=.cells 3 [[.int .i64 0,.nils,.nils]] 0 false false:=by rw[frb 2 (by omega),f2]
 simp only[sx]
 exact fin _ _ gr _ _ _ _ (by simp[sx,h3]) (by simp[sx,h4]) g1e g2e s1 s2 (s3 gr)
theorem KP {d K:Nat}{x:jg}{gr:Int}{R n J:Nat}{Rt:Nat->List Int}{c:Nat->Int}{F:Nat->Nat->List Int}(hK:K<=1000000)(hR:R<=K)(hn:n<=K)(hJ:J<n){t:T}{g':G}{V:Ky->AV}{E:Ky->En}{Qk:QT}
  (h2:tat t 2=.hptr 0 0 0 0) (h3:tat t 3=.hptr 1 0 0 0) (h4:tat t 4=.hptr 2 0 0 0) (h5:tat t 5=V (4,0)) (h8:tat t 8=V (4,1)) (h11:tat t 11=ec 4 (V (4,1)) J 0) (hH:Hp g' 3 (LB R n) V E)
  (f0:g'.h.get 0=.cells 4 [[u8v x.1,u8v x.2.1,u8v x.2.2.1,.int .i64 x.2.2.2]] 0 false false) (f1:g'.h.get 1=.cells 3 [[.int .i64 gr,V (4,0),V (4,1)]] 0 false false) (f2:g'.h.get 2=.cells 3 [[.int .i64 0,.nils,.nils]] 0 false false) (hD:BD K R n V E Rt c F)
  (fin:∀t g gr rv nv rts nds,tat t 3=.hptr 1 0 0 0->tat t 4=.hptr 2 0 0 0->g.h.get 1=.cells 3 [[.int .i64 gr,rv,nv]] 0 false false->g.h.get 2=.cells 3 [[.int .i64 0,.nils,.nils]] 0 false false->SlR P3 0 g.h rts rv->SlR P3 0 g.h nds nv->Bnd (K+1) ⟨gr,rts,nds⟩->Qk .norm t [] g) :
  wp C0 d none (.ops [o 110 (.fad 1 (.t 3)),o 111 (.load false 1 (.t 110)),o 112 (.fad 0 (.t 3)),o 113 (.load false 1 (.t 112)),o 114 (.bsl 1 1 [.int .i64 0] [0] [.t 113]),o 115 (.bsl 1 1 [.nils] [0] [.t 114]),o 116 (.app 1 24 (.t 111) (.t 115)),o 117 (.fad 1 (.t 3)),oz (.store 1 (.t 117) (.t 116))]) Qk t [] g':=by
 have o0:=hH.own (k:=(4,0)) (by simp[LB]) hD.rs
 have o1:=hH.own (k:=(4,1)) (by simp[LB]) hD.ns
 have hDu:=hD.up (show K<=K+1 by omega)
 have hn0:0<n:=by omega
 have ry1:kG (V (4,1))=true:=dq o1.rows (i:=0) (by simpa using hn0)
 have lrow:((List.range n).map fun i=>[AV.int .i64 (c i),V (1,i),V (2,i),V (3,i)]).length=n:=by simp
 have hrowJ:((List.range n).map fun i=>[AV.int .i64 (c i),V (1,i),V (2,i),V (3,i)])[J]?=some [AV.int .i64 (c J),V (1,J),V (2,J),V (3,J)]:=by simp[hJ]
 have hnx:=hH.nx
 simp only[sx,sy,SO.run,↓reduceIte,Nat.reduceEqDiff,h3,f1]
 have hA:=(hH.add (k:=(0,R)) (L':=LB (R+1) n) (g':=g'.new (.cells 1 [[.int .i64 gr]] 0 false false)) (v':=.hsl g'.nx 0 0 1 none) (e':=.sl 1 [[.int .i64 gr]]) (by simp[LB]) (vz hnx _) (by simp) (fun i _ hi=>by rw[G.new_h,aq _ _ _ (by omega)]) (fun i hi=>by injection hi with hi;omega) (fun k hk=>DK hk))
 have hB:=hA.step (g':=(g'.new (.cells 1 [[.int .i64 gr]] 0 false false)).new (.cells 1 [[.hsl g'.nx 0 0 1 none]] 0 false false)) (by simp) (fun i _ hi=>by rw[G.new_h,aq _ _ _ (by omega)])
 have vv:V (4,0)=ups V (0,R) (.hsl g'.nx 0 0 1 none) (4,0):=(ae _ _ (by simp)).symm
 have vv1:V (4,1)=ups V (0,R) (.hsl g'.nx 0 0 1 none) (4,1):=(ae _ _ (by simp)).symm
 rw[vv]
 refine hB.app (k:=(4,0)) (by simp[LB]) (by rw[ae _ _ (by simp)];exact hD.rs) (new:=[[.hsl g'.nx 0 0 1 none]]) (by simp[sx,sy]) (by simp[aZ];omega) fun v1 gb hHb nb frb _ _ vca vta=>?_
 simp only[sx,sy] at nb frb
 have g1e:gb.h.get 1=.cells 3 [[.int .i64 gr,V (4,0),V (4,1)]] 0 false false:=by rw[frb 1 (by omega),if_neg (by omega),if_neg (by omega),f1]
 have g2e:gb.h.get 2=.cells 3 [[.int .i64 0,.nils,.nils]] 0 false false:=by rw[frb 2 (by omega),if_neg (by omega),if_neg (by omega),f2]
 have hDb:BD (K+1) (R+1) n (ups (ups V (0,R) (.hsl g'.nx 0 0 1 none)) (4,0) v1) (ups (ups E (0,R) (.sl 1 [[.int .i64 gr]])) (4,0) (.sl 1 (((List.range R).map fun i=>[V (0,i)])++[[.hsl g'.nx 0 0 1 none]]))) (ups Rt R [gr]) c F:=by
  refine ⟨fun i hi=>?_,fun q' i a1 a2 hi=>?_,?_,?_⟩
  ·rw[ae _ _ (by simp)]
   by_cases e:i=R
   ·subst e;rw[ax,ax];exact ⟨rfl,by simp⟩
   ·rw[ae _ _ (by simpa using e),ae _ _ e];exact hDu.r i (by omega)
  ·rw[ae _ _ (by simp;omega),ae _ _ (by simp;omega)];exact hDu.f q' i a1 a2 hi
  ·rw[ax,List.range_succ,List.map_append]
   congr 2
   ·refine List.map_congr_left fun i hi=>?_
    have:=List.mem_range.1 hi
    rw[ae _ _ (by simp),ae _ _ (by simp;omega)]
   ·simp[ae,ax]
  ·rw[ae _ _ (by simp),ae _ _ (by simp),hD.ns]
   refine congrArg (En.sl 4) (List.map_congr_left fun i hi=>?_)
   rw[ae _ (k:=(4,0)) (j:=(1,i)) _ (by simp),ae _ (k:=(4,0)) (j:=(2,i)) _ (by simp),ae _ (k:=(4,0)) (j:=(3,i)) _ (by simp),ae V (k:=(0,R)) (j:=(1,i)) _ (by simp),ae V (k:=(0,R)) (j:=(2,i)) _ (by simp),ae V (k:=(0,R)) (j:=(3,i)) _ (by simp)]
 obtain ⟨s1,s2,s3⟩:=hDb.sl hHb (by omega) (by omega) (by omega)
 rw[ax] at s1
 rw[ae _ _ (by simp),ae _ _ (by simp)] at s2
 simp only[sx,sy,SO.run,↓reduceIte,Nat.reduceEqDiff,Nat.reduceAdd,Nat.reduceLeDiff,h3,g1e,vca,vta]
 exact fin _ _ gr _ _ _ _ (by simp[sx,h3]) (by simp[sx,h4]) (by simp[H.get_put]) (by simp[H.get_put,g2e]) (s1.far fun i hi=>by simp[H.get_put];intro e;have:3<=i:=hi;omega) (s2.far fun i hi=>by simp[H.get_put];intro e;have:3<=i:=hi;omega) (s3 gr)
theorem K9 {d K:Nat}{x:jg}{gr:Int}{R n J:Nat}{Rt:Nat->List Int}{c:Nat->Int}{F:Nat->Nat->List Int}(hK:K<=1000000)(hR:R<=K)(hn:n<=K)(hJ:J<n){t:T}{g':G}{V:Ky->AV}{E:Ky->En}{Qk:QT}
  (h2:tat t 2=.hptr 0 0 0 0) (h3:tat t 3=.hptr 1 0 0 0) (h4:tat t 4=.hptr 2 0 0 0) (h5:tat t 5=V (4,0)) (h8:tat t 8=V (4,1)) (h11:tat t 11=ec 4 (V (4,1)) J 0) (hH:Hp g' 3 (LB R n) V E)
  (f0:g'.h.get 0=.cells 4 [[u8v x.1,u8v x.2.1,u8v x.2.2.1,.int .i64 x.2.2.2]] 0 false false) (f1:g'.h.get 1=.cells 3 [[.int .i64 gr,V (4,0),V (4,1)]] 0 false false) (f2:g'.h.get 2=.cells 3 [[.int .i64 0,.nils,.nils]] 0 false false) (hD:BD K R n V E Rt c F)
  (fin:∀t g gr rv nv rts nds,tat t 3=.hptr 1 0 0 0->tat t 4=.hptr 2 0 0 0->g.h.get 1=.cells 3 [[.int .i64 gr,rv,nv]] 0 false false->g.h.get 2=.cells 3 [[.int .i64 0,.nils,.nils]] 0 false false->SlR P3 0 g.h rts rv->SlR P3 0 g.h nds nv->Bnd (K+1) ⟨gr,rts,nds⟩->Qk .norm t [] g) :
  wp C0 d none (.ops [o 230 (.mv (.t 8)),o 231 (.bsl 1 1 [.int .i64 0] [0] [.k (.int .i64 0)]),o 232 (.build [.int .i64 0,.nils,.nils,.nils] [(0,1),(3,1)] [.k (.int .i64 1),.t 231]),o 233 (.bsl 4 1 [.int .i64 0,.nils,.nils,.nils] [0] [.t 232]),o 234 (.app 4 80 (.t 230) (.t 233)),o 235 (.fad 2 (.t 3)),oz (.store 1 (.t 235) (.t 234))]) Qk t [] g':=by
 have o0:=hH.own (k:=(4,0)) (by simp[LB]) hD.rs
 have o1:=hH.own (k:=(4,1)) (by simp[LB]) hD.ns
 have hDu:=hD.up (show K<=K+1 by omega)
 have hn0:0<n:=by omega
 have ry1:kG (V (4,1))=true:=dq o1.rows (i:=0) (by simpa using hn0)
 have lrow:((List.range n).map fun i=>[AV.int .i64 (c i),V (1,i),V (2,i),V (3,i)]).length=n:=by simp
 have hrowJ:((List.range n).map fun i=>[AV.int .i64 (c i),V (1,i),V (2,i),V (3,i)])[J]?=some [AV.int .i64 (c J),V (1,J),V (2,J),V (3,J)]:=by simp[hJ]
 have hnx:=hH.nx
 simp only[sx,sy,SO.run,↓reduceIte,Nat.reduceEqDiff,Nat.reduceAdd,Nat.reduceLeDiff,h8]
 have hA:=(hH.add (k:=(3,n)) (L':=fun k=>LB R n k\/k=(3,n)) (g':=g'.new (.cells 1 [[.int .i64 0]] 0 false false)) (v':=.hsl g'.nx 0 0 1 none) (e':=.sl 1 [[.int .i64 0]]) (fun h=>eG h 3 (by omega) (by omega) rfl) (vz hnx _) (by simp) (fun i _ hi=>by rw[G.new_h,aq _ _ _ (by omega)]) (fun i hi=>by injection hi with hi;omega) (fun k hk=>hk))
 have hA2:=hA.add (k:=(2,n)) (L':=fun k=>LB R n k\/k=(3,n)\/k=(2,n)) (v':=.nils) (e':=.sl 1 []) (by rintro (h | h);exact eG h 2 (by omega) (by omega) rfl;simp at h) (.inl ⟨rfl,rfl⟩) (Nat.le_refl _) (fun _ _ _=>rfl) (fun i hi=>by cases hi) (fun k hk=>by rcases hk with h | h | h;exact .inl (.inl h);exact .inl (.inr h);exact .inr h)
 have hA3:=hA2.add (k:=(1,n)) (L':=LB R (n+1)) (v':=.nils) (e':=.sl 1 []) (by rintro (h | h | h);exact eG h 1 (by omega) (by omega) rfl;simp at h;simp at h) (.inl ⟨rfl,rfl⟩) (Nat.le_refl _) (fun _ _ _=>rfl) (fun i hi=>by cases hi) (fun k hk=>by
  rcases hk with h | ⟨a1,a2,a3⟩ | h
  ·exact .inl (.inl (.inl h))
  ·by_cases e:k.2=n
   ·have:k.1=1\/k.1=2\/k.1=3:=by omega
    rcases this with h | h | h
    ·exact .inr (Prod.ext h e)
    ·exact .inl (.inr (.inr (Prod.ext h e)))
    ·exact .inl (.inr (.inl (Prod.ext h e)))
   ·exact .inl (.inl (.inr (.inl ⟨a1,a2,by omega⟩)))
  ·exact .inl (.inl (.inr (.inr h))))
 have hB:=hA3.step (g':=(g'.new (.cells 1 [[.int .i64 0]] 0 false false)).new (.cells 4 [[.int .i64 1,.nils,.nils,.hsl g'.nx 0 0 1 none]] 0 false false)) (by simp) (fun i _ hi=>by rw[G.new_h,aq _ _ _ (by omega)])
 obtain ⟨V1,hV1⟩:∃V1,V1=ups (ups (ups V (3,n) (.hsl g'.nx 0 0 1 none)) (2,n) .nils) (1,n) .nils:=⟨_,rfl⟩
 obtain ⟨E1,hE1⟩:∃E1,E1=ups (ups (ups E (3,n) (.sl 1 [[.int .i64 0]])) (2,n) (.sl 1 [])) (1,n) (.sl 1 []):=⟨_,rfl⟩
 rw[<-hV1,<-hE1] at hB
 have old:∀k,LB R n k->V1 k=V k/\E1 k=E k:=fun k hk=>by
  rw[hV1,hE1,ae _ _ (eG hk 1 (by omega) (by omega)),ae _ _ (eG hk 2 (by omega) (by omega)),ae _ _ (eG hk 3 (by omega) (by omega)),ae _ _ (eG hk 1 (by omega) (by omega)),ae _ _ (eG hk 2 (by omega) (by omega)),ae _ _ (eG hk 3 (by omega) (by omega))]
  exact ⟨rfl,rfl⟩
 have n1:V1 (1,n)=.nils/\E1 (1,n)=.sl 1 []:=by rw[hV1,hE1];simp[ax]
 have n2:V1 (2,n)=.nils/\E1 (2,n)=.sl 1 []:=by rw[hV1,hE1];simp[ae,ax]
 have n3:V1 (3,n)=.hsl g'.nx 0 0 1 none/\E1 (3,n)=.sl 1 [[.int .i64 0]]:=by rw[hV1,hE1];simp[ae,ax]
 have e40:=old (4,0) (by simp[LB])
 have e41:=old (4,1) (by simp[LB])
 rw[<-e41.1]
 refine hB.app (k:=(4,1)) (by simp[LB]) (by rw[e41.2];exact hD.ns) (new:=[[.int .i64 1,.nils,.nils,.hsl g'.nx 0 0 1 none]]) (by simp[sx,sy]) (by simp[aZ];omega) fun v1 gb hHb nb frb _ _ vca vta=>?_
 simp only[sx,sy] at nb frb
 have g1e:gb.h.get 1=.cells 3 [[.int .i64 gr,V (4,0),V (4,1)]] 0 false false:=by rw[frb 1 (by omega),if_neg (by omega),if_neg (by omega),f1]
 have g2e:gb.h.get 2=.cells 3 [[.int .i64 0,.nils,.nils]] 0 false false:=by rw[frb 2 (by omega),if_neg (by omega),if_neg (by omega),f2]
 have hDb:BD (K+1) R (n+1) (ups V1 (4,1) v1) (ups E1 (4,1) (.sl 4 (((List.range n).map fun i=>[.int .i64 (c i),V (1,i),V (2,i),V (3,i)])++[[.int .i64 1,.nils,.nils,.hsl g'.nx 0 0 1 none]]))) Rt (ups c n 1) (fun q=>ups (F q) n (if q=3 then [0] else [])):=by
  refine ⟨fun i hi=>?_,fun q' i a1 a2 hi=>?_,?_,?_⟩
  ·rw[ae _ _ (by simp),(old (0,i) (.inl ⟨rfl,hi⟩)).2];exact hDu.r i hi
  ·rw[ae _ _ (by simp;omega)]
   by_cases e:i=n
   ·subst e
    rw[ax]
    have:q'=1\/q'=2\/q'=3:=by omega
    rcases this with rfl | rfl | rfl
    ·exact ⟨n1.2,by simp⟩
    ·exact ⟨n2.2,by simp⟩
    ·exact ⟨n3.2,by simp⟩
   ·rw[ae _ _ e,(old (q',i) (.inr (.inl ⟨a1,a2,by omega⟩))).2];exact hDu.f q' i a1 a2 (by omega)
  ·rw[ae _ _ (by simp),e40.2,hD.rs]
   refine congrArg (En.sl 1) (List.map_congr_left fun i hi=>?_)
   have hi:=List.mem_range.1 hi
   rw[ae _ _ (by simp),(old (0,i) (.inl ⟨rfl,hi⟩)).1]
  ·rw[ax,List.range_succ,List.map_append]
   congr 2
   ·refine List.map_congr_left fun i hi=>?_
    have hi:=List.mem_range.1 hi
    rw[ae c _ (show i≠n by omega),ae V1 (j:=(1,i)) _ (by simp),ae V1 (j:=(2,i)) _ (by simp),ae V1 (j:=(3,i)) _ (by simp),(old (1,i) (.inr (.inl ⟨by simp,by simp,hi⟩))).1,(old (2,i) (.inr (.inl ⟨by simp,by simp,hi⟩))).1,(old (3,i) (.inr (.inl ⟨by simp,by simp,hi⟩))).1]
   ·simp[ae,ax,n1.1,n2.1,n3.1]
 obtain ⟨s1,s2,s3⟩:=hDb.sl hHb (by omega) (by omega) (by omega)
 rw[ax] at s2
 rw[ae _ _ (by simp),e40.1] at s1
 simp only[sx,sy,SO.run,↓reduceIte,Nat.reduceEqDiff,Nat.reduceAdd,Nat.reduceLeDiff,h3,g1e,vca,vta]
 exact fin _ _ gr _ _ _ _ (by simp[sx,h3]) (by simp[sx,h4]) (by simp[H.get_put]) (by simp[H.get_put,g2e]) (s1.far fun i hi=>by simp[H.get_put];intro e;have:3<=i:=hi;omega) (s2.far fun i hi=>by simp[H.get_put];intro e;have:3<=i:=hi;omega) (s3 gr)
theorem IU {α:Type} [Rp α]{g:G}{b:Nat}{u:AV}{rows:List (List AV)}(hu:Own g b u (Rp.sz α) rows)(hne:rows≠[]){n:Nat}(hn:n<=rows.length) :
  ∃y,rN (Rp.sz α) u none (some (.int .i64 (n:Int))) g=.val y/\(y.cells=[y]/\y.isTup=false)/\∀(P:Nat->Prop) (k:Nat) (l:List α),SlR P k g.h l u->SlR P k g.h (l.take n) y:=by
 rcases hu with ⟨rfl,rfl⟩ | ⟨id,ep,lo,h1,h2,rfl,h3⟩
 ·exact absurd rfl hne
 ·simp only[rN,j9,h3,Nat.beq_refl,Bool.true_and,aD,Nat.zero_add,aa,Nat.ble_eq,Nat.le_refl,if_true,aY,Option.getD_none,Nat.sub_zero]
  simp only[dV]
  rw[show az (n.ble rows.length) (some n) none=some n from by rw[aa,if_pos (by simpa using hn)]]
  dsimp only
  have hb:rows.length.beq 0=false:=by cases rows with | nil=>exact absurd rfl hne | cons a l=>rfl
  rw[hb]
  refine ⟨_,rfl,⟨rfl,rfl⟩,fun P k l h=>?_⟩
  obtain ⟨hl,hp,rr,q1,q2⟩:=h
  rw[d5,h3,ut] at q1
  injection q1 with q1;subst q1
  refine ⟨by rw[List.length_take];omega,hp,rows.take n,?_,q2.take n⟩
  rw[d5,h3,cN,if_pos (by omega),List.drop_zero]
theorem Kj {d K:Nat}{x:jg}{gr:Int}{R n J:Nat}{Rt:Nat->List Int}{c:Nat->Int}{F:Nat->Nat->List Int}(hK:K<=1000000)(hR:R<=K)(hn:n<=K)(hJ:J<n){t:T}{g':G}{V:Ky->AV}{E:Ky->En}{Qk:QT}
  (h2:tat t 2=.hptr 0 0 0 0) (h3:tat t 3=.hptr 1 0 0 0) (h4:tat t 4=.hptr 2 0 0 0) (h5:tat t 5=V (4,0)) (h8:tat t 8=V (4,1)) (h11:tat t 11=ec 4 (V (4,1)) J 0) (hH:Hp g' 3 (LB R n) V E)
  (f0:g'.h.get 0=.cells 4 [[u8v x.1,u8v x.2.1,u8v x.2.2.1,.int .i64 x.2.2.2]] 0 false false) (f1:g'.h.get 1=.cells 3 [[.int .i64 gr,V (4,0),V (4,1)]] 0 false false) (f2:g'.h.get 2=.cells 3 [[.int .i64 0,.nils,.nils]] 0 false false) (hD:BD K R n V E Rt c F)
  (fin:∀t g gr rv nv rts nds,tat t 3=.hptr 1 0 0 0->tat t 4=.hptr 2 0 0 0->g.h.get 1=.cells 3 [[.int .i64 gr,rv,nv]] 0 false false->g.h.get 2=.cells 3 [[.int .i64 0,.nils,.nils]] 0 false false->SlR P3 0 g.h rts rv->SlR P3 0 g.h nds nv->Bnd (K+1) ⟨gr,rts,nds⟩->Qk .norm t [] g) :
  wp C0 d none (.ops [o 97 (.mv (.t 8)),o 98 (.mv (.t 8)),o 99 (.len .slice (.t 98)),o 100 (.bin .sub (.t 99) (.k (.int .i64 1))),o 101 (.slc 4 (.t 97) [] [.t 100]),o 102 (.fad 2 (.t 3)),oz (.store 1 (.t 102) (.t 101))]) Qk t [] g':=by
 have o0:=hH.own (k:=(4,0)) (by simp[LB]) hD.rs
 have o1:=hH.own (k:=(4,1)) (by simp[LB]) hD.ns
 have hDu:=hD.up (show K<=K+1 by omega)
 have hn0:0<n:=by omega
 have ry1:kG (V (4,1))=true:=dq o1.rows (i:=0) (by simpa using hn0)
 have lrow:((List.range n).map fun i=>[AV.int .i64 (c i),V (1,i),V (2,i),V (3,i)]).length=n:=by simp
 have hrowJ:((List.range n).map fun i=>[AV.int .i64 (c i),V (1,i),V (2,i),V (3,i)])[J]?=some [AV.int .i64 (c J),V (1,J),V (2,J),V (3,J)]:=by simp[hJ]
 have hnx:=hH.nx
 have len1:=bh o1.rows
 rw[lrow] at len1
 obtain ⟨s1,s2,s3⟩:=hDu.sl hH (by omega) (by omega) (by omega)
 have e1:((n:Int) - 1)=((n - 1:Nat):Int):=by omega
 simp only[sx,SO.run,↓reduceIte,Nat.reduceEqDiff,h8,len1,an (show -9223372036854775808<=(n:Int) - 1 by omega) (show (n:Int) - 1<9223372036854775808 by omega),List.head?_nil,List.head?_cons]
 rw[e1]
 obtain ⟨y,q1,q2,q3⟩:=IU (α:=Mech) o1 (n:=n - 1) (by intro h;have:=congrArg List.length h;rw[lrow] at this;simp at this;omega) (by rw[lrow];omega)
 have q1:rN 4 (V (4,1)) none (some (.int .i64 ((n - 1:Nat):Int))) g'=.val y:=q1
 simp only[sx,sy,SO.run,↓reduceIte,Nat.reduceEqDiff,Nat.reduceAdd,Nat.reduceLeDiff,q1,h3,f1,q2.1,q2.2]
 have s2':SlR P3 0 g'.h (((List.range n).map fun i=>(⟨c i,F 1 i,F 2 i,F 3 i⟩:Mech)).take (n - 1)) y:=q3 P3 0 _ s2
 exact fin _ _ gr _ _ _ _ (by simp[sx,h3]) (by simp[sx,h4]) (by simp[H.get_put]) (by simp[H.get_put,f2]) (s1.far fun i hi=>by simp[H.get_put];intro e;have:3<=i:=hi;omega) (s2'.far fun i hi=>by simp[H.get_put];intro e;have:3<=i:=hi;omega)
  ⟨(s3 gr).r,(s3 gr).rr,by have:=(s3 gr).n;simp at this ⊢;omega,fun x hx=>(s3 gr).f x (List.mem_of_mem_take hx)⟩
end
end Hx
end
section
namespace Hx
open Go
noncomputable section
theorem bk3 {d K:Nat}{x:jg}{gr:Int}{a b:AV}{R n:Nat}{Rt:Nat->List Int}{c:Nat->Int}{F:Nat->Nat->List Int}(hK:K<=1000000)(hR:R<=K)(hn:n<=K){t:T}{g:G}{V:Ky->AV}{E:Ky->En}
  (ht:St t [(2,.hptr 0 0 0 0),(3,.hptr 1 0 0 0),(4,.hptr 2 0 0 0)]) (h5:tat t 5=V (4,0)) (h8:tat t 8=V (4,1)) (hH:Hp g 3 (LB R n) V E) (hB:BB g [u8v x.1,u8v x.2.1,u8v x.2.2.1,.int .i64 x.2.2.2] gr a b) (hD:BD K R n V E Rt c F) :
  wp C0 d none ff (fnQ C0 d [SR.cell true 3 4] fun v g'=>∃P,zR (K+1) P 0 g'.h v) t [] g:=by
 obtain ⟨h2,h3,h4,-⟩:=ht
 obtain ⟨b0,b1,b2⟩:=hB
 have o0:=hH.own (k:=(4,0)) (by simp[LB]) hD.rs
 have o1:=hH.own (k:=(4,1)) (by simp[LB]) hD.ns
 have len1:=bh o1.rows
 rw[List.length_map,List.length_range] at len1
 have hnx:=hH.nx
 have hfr:∀i,3<=i->((g.put 1 (.cells 3 [[.int .i64 gr,V (4,0),b]] 0 false false)).put 1 (.cells 3 [[.int .i64 gr,V (4,0),V (4,1)]] 0 false false)).h.get i=g.h.get i:=fun i hi=>by
  rw[G.put_h,aq _ _ _ (by omega),G.put_h,aq _ _ _ (by omega)]
 have hH:=hH.step (g':=(g.put 1 (.cells 3 [[.int .i64 gr,V (4,0),b]] 0 false false)).put 1 (.cells 3 [[.int .i64 gr,V (4,0),V (4,1)]] 0 false false)) (by simp) fun i hi _=>hfr i hi
 have f0:((g.put 1 (.cells 3 [[.int .i64 gr,V (4,0),b]] 0 false false)).put 1 (.cells 3 [[.int .i64 gr,V (4,0),V (4,1)]] 0 false false)).h.get 0=.cells 4 [[u8v x.1,u8v x.2.1,u8v x.2.2.1,.int .i64 x.2.2.2]] 0 false false:=by simp[H.get_put,b0]
 have f1:((g.put 1 (.cells 3 [[.int .i64 gr,V (4,0),b]] 0 false false)).put 1 (.cells 3 [[.int .i64 gr,V (4,0),V (4,1)]] 0 false false)).h.get 1=.cells 3 [[.int .i64 gr,V (4,0),V (4,1)]] 0 false false:=by simp[H.get_put]
 have f2:((g.put 1 (.cells 3 [[.int .i64 gr,V (4,0),b]] 0 false false)).put 1 (.cells 3 [[.int .i64 gr,V (4,0),V (4,1)]] 0 false false)).h.get 2=.cells 3 [[.int .i64 0,.nils,.nils]] 0 false false:=by simp[H.get_put,b2]
 simp only[ff,sx,sy,SO.run,↓reduceIte,Nat.reduceEqDiff,Nat.reduceAdd,Nat.reduceLeDiff,h3,h5,h8,b1,len1,o0.cell.1,o0.cell.2,o1.cell.1,o1.cell.2]
 obtain ⟨g1,hg1⟩:∃g1,g1=(g.put 1 (.cells 3 [[.int .i64 gr,V (4,0),b]] 0 false false)).put 1 (.cells 3 [[.int .i64 gr,V (4,0),V (4,1)]] 0 false false):=⟨_,rfl⟩
 rw[<-hg1] at hH f0 f1 f2 ⊢
 clear hfr hg1 b0 b1 b2
 have o1:=hH.own (k:=(4,1)) (by simp[LB]) hD.ns
 have hDu:=hD.up (show K<=K+1 by omega)
 refine aw (fun hb=>?_) (fun hb=>?_)
 ·simp only[sx,sy,SO.run,↓reduceIte,Nat.reduceEqDiff,Nat.reduceAdd,Nat.reduceLeDiff,h3,h4,f1,f2]
  obtain ⟨s1,s2,s3⟩:=hDu.sl hH (by omega) (by omega) (by omega)
  refine ⟨P3,_,s3 gr,_,rfl,?_⟩
  exact Rp.mono (P:=P3) (h:=g1.h) (aC.2 ⟨_,_,rfl,s1,s2⟩) (fun i hi=>⟨hi,by rw[aq _ _ _ (by have:3<=i:=hi;omega)]⟩) (Nat.le_refl _)
 have hn0:0<n:=by simp at hb;omega
 have ry1:kG (V (4,1))=true:=dq o1.rows (i:=0) (by simpa using hn0)
 have at8:x.2.1.toNat<256:=x.2.1.toNat_lt
 have em:((x.2.1.toNat:Int) % (n:Int))=((x.2.1.toNat % n:Nat):Int):=by omega
 have hJ:x.2.1.toNat % n<n:=Nat.mod_lt _ hn0
 obtain ⟨J,hJe⟩:∃J,J=x.2.1.toNat % n:=⟨_,rfl⟩
 rw[<-hJe] at em hJ
 have lrow:((List.range n).map fun i=>[AV.int .i64 (c i),V (1,i),V (2,i),V (3,i)]).length=n:=by simp
 rw[pP,ii]
 refine dT (P:=fun t df g'=>df=[]/\g'=g1/\St t [(2,.hptr 0 0 0 0),(3,.hptr 1 0 0 0),(4,.hptr 2 0 0 0),(5,V (4,0)),(8,V (4,1)),(11,ec 4 (V (4,1)) J 0)]) ?_ ?_
 ·simp only[sx,sy,SO.run,↓reduceIte,Nat.reduceEqDiff,h2,h3,h4,h5,h8,f0,len1,u8v,an (show -9223372036854775808<=(x.2.1.toNat:Int) by omega) (show (x.2.1.toNat:Int)<9223372036854775808 by omega),bC .i64 (show (0:Int)<=(x.2.1.toNat:Int) by omega) (show 0<(n:Int) by omega),em,o1.rows,lrow,hJ,Option.isSome_some,Option.getD_some,St]
 clear h2 h3 h4 h5 h8
 rintro t df g' ⟨rfl,rfl,h2,h3,h4,h5,h8,h11,-⟩
 have w8:x.1.toNat<256:=x.1.toNat_lt
 have last:∀(t:T) (g:G) (gr:Int) (rv nv:AV) (rts:List (List Int)) (nds:List Mech),tat t 3=.hptr 1 0 0 0->tat t 4=.hptr 2 0 0 0->g.h.get 1=.cells 3 [[.int .i64 gr,rv,nv]] 0 false false->g.h.get 2=.cells 3 [[.int .i64 0,.nils,.nils]] 0 false false->SlR P3 0 g.h rts rv->SlR P3 0 g.h nds nv->Bnd (K+1) ⟨gr,rts,nds⟩ ->
   kB 4 (kS (wp C0 d none du (fnQ C0 d [SR.cell true 3 4] fun v g'=>∃P,zR (K+1) P 0 g'.h v)) (fnQ C0 d [SR.cell true 3 4] fun v g'=>∃P,zR (K+1) P 0 g'.h v)) .norm t [] g:=fun t g gr rv nv rts nds h3 h4 e1 e2 s1 s2 s3=>by
  rw[Ab,ii]
  exact bk2 h3 h4 e1 e2 s1 s2 s3
 simp only[sx,sy,SO.run,↓reduceIte,h2,f0,u8v,bC .u8 (show (0:Int)<=(x.1.toNat:Int) by omega) (show (0:Int)<11 by decide)]
 refine aw (fun hb=>?_) (fun hb=>?_)
 ·exact K0 hK hR hn hJ (by simp[sx,h2]) (by simp[sx,h3]) (by simp[sx,h4]) (by simp[sx,h5]) (by simp[sx,h8]) (by simp[sx,h11]) hH f0 f1 f2 hD last
 simp only[sx,SO.run,↓reduceIte,Nat.reduceEqDiff]
 refine aw (fun hb=>?_) (fun hb=>?_)
 ·exact KP hK hR hn hJ (by simp[sx,h2]) (by simp[sx,h3]) (by simp[sx,h4]) (by simp[sx,h5]) (by simp[sx,h8]) (by simp[sx,h11]) hH f0 f1 f2 hD last
 simp only[sx,SO.run,↓reduceIte,Nat.reduceEqDiff]
 refine aw (fun hb=>?_) (fun hb=>?_)
 ·exact K4 hK hR hn hJ (by simp[sx,h2]) (by simp[sx,h3]) (by simp[sx,h4]) (by simp[sx,h5]) (by simp[sx,h8]) (by simp[sx,h11]) hH f0 f1 f2 hD last
 simp only[sx,SO.run,↓reduceIte,Nat.reduceEqDiff]
 refine aw (fun hb=>?_) (fun hb=>?_)
 ·exact Ld hK hR hn hJ (by simp[sx,h2]) (by simp[sx,h3]) (by simp[sx,h4]) (by simp[sx,h5]) (by simp[sx,h8]) (by simp[sx,h11]) hH f0 f1 f2 hD last
 simp only[sx,SO.run,↓reduceIte,Nat.reduceEqDiff]
 refine aw (fun hb=>?_) (fun hb=>?_)
 ·exact KM hK hR hn hJ (by simp[sx,h2]) (by simp[sx,h3]) (by simp[sx,h4]) (by simp[sx,h5]) (by simp[sx,h8]) (by simp[sx,h11]) hH f0 f1 f2 hD last
 simp only[sx,SO.run,↓reduceIte,Nat.reduceEqDiff]
 refine aw (fun hb=>?_) (fun hb=>?_)
 ·exact KX hK hR hn hJ (by simp[sx,h2]) (by simp[sx,h3]) (by simp[sx,h4]) (by simp[sx,h5]) (by simp[sx,h8]) (by simp[sx,h11]) hH f0 f1 f2 hD last
 simp only[sx,SO.run,↓reduceIte,Nat.reduceEqDiff]
 refine aw (fun hb=>?_) (fun hb=>?_)
 ·exact K8 hK hR hn hJ (by simp[sx,h2]) (by simp[sx,h3]) (by simp[sx,h4]) (by simp[sx,h5]) (by simp[sx,h8]) (by simp[sx,h11]) hH f0 f1 f2 hD last
 simp only[sx,SO.run,↓reduceIte,Nat.reduceEqDiff]
 refine aw (fun hb=>?_) (fun hb=>?_)
 ·exact K1 hK hR hn hJ (by simp[sx,h2]) (by simp[sx,h3]) (by simp[sx,h4]) (by simp[sx,h5]) (by simp[sx,h8]) (by simp[sx,h11]) hH f0 f1 f2 hD last
 simp only[sx,SO.run,↓reduceIte,Nat.reduceEqDiff]
 refine aw (fun hb=>?_) (fun hb=>?_)
 ·exact K_ hK hR hn hJ (by simp[sx,h2]) (by simp[sx,h3]) (by simp[sx,h4]) (by simp[sx,h5]) (by simp[sx,h8]) (by simp[sx,h11]) hH f0 f1 f2 hD last
 simp only[sx,SO.run,↓reduceIte,Nat.reduceEqDiff]
 refine aw (fun hb=>?_) (fun hb=>?_)
 ·exact K9 hK hR hn hJ (by simp[sx,h2]) (by simp[sx,h3]) (by simp[sx,h4]) (by simp[sx,h5]) (by simp[sx,h8]) (by simp[sx,h11]) hH f0 f1 f2 hD last
 exact Kj hK hR hn hJ (by simp[sx,h2]) (by simp[sx,h3]) (by simp[sx,h4]) (by simp[sx,h5]) (by simp[sx,h8]) (by simp[sx,h11]) hH f0 f1 f2 hD last
theorem FN {d K:Nat}{g:G}{x:jg}{m:Causal}{v w:AV}(hd:0<d)(hx:Agg x NoP 0 g.h v)(hm:Agg m NoP 0 g.h w)(hb:Bnd K m)(hK:K<=1000000):∃r,ak C0 d N.bF [v,w] g=.val r/\zR (K+1) NoP 0 .nil r:=by
 have e0:=cj d hx
 have e1:=cj d hm
 obtain ⟨cs,rfl,hc⟩:=hx
 have hc:=B_.1 hc
 subst hc
 obtain ⟨cs,rfl,hc⟩:=hm
 obtain ⟨a,b,rfl,hR,hN⟩:=aC.1 hc
 rw[rc]
 refine aV tP (xs:=[.agg [u8v x.1,u8v x.2.1,u8v x.2.2.1,.int .i64 x.2.2.2],.agg [.int .i64 m.grain,a,b]]) (by simp only[aH,e0,e1]) (by simp[iJ]) (Hl (K+1)) (by decide) hd ?_
 clear e0 e1 hc
 have hR:=hR.tree (h':=.nil) (Nat.le_refl _)
 have hN:=hN.tree (h':=.nil) (Nat.le_refl _)
 simp only[iJ,sx,sy,SO.run,↓reduceIte,Nat.reduceEqDiff,Nat.reduceAdd]
 obtain ⟨g0,hg0⟩:∃g0,g0=((G.empty.new (.cells 4 [[u8v x.1,u8v x.2.1,u8v x.2.2.1,.int .i64 x.2.2.2]] 0 false false)).new (.cells 3 [[.int .i64 m.grain,a,b]] 0 false false)).new (.cells 3 [[.int .i64 0,.nils,.nils]] 0 false false):=⟨_,rfl⟩
 rw[<-hg0]
 have f0:BB g0 [u8v x.1,u8v x.2.1,u8v x.2.2.1,.int .i64 x.2.2.2] m.grain a b:=by rw[hg0];exact ⟨by simp[sx,H.get_put],by simp[sx,H.get_put],by simp[sx]⟩
 have f3:g0.nx=3:=by rw[hg0];simp[sx]
 clear hg0
 have hH:Hp g0 3 (LB 0 0) (fun _=>.nils) (fun k=>if k=(4,1) then .sl 4 [] else .sl 1 []) :=
  ⟨fun k _=>by by_cases e:k=(4,1);(· simp only[if_pos e];exact .inl ⟨rfl,rfl⟩);(· simp only[if_neg e];exact .inl ⟨rfl,rfl⟩),fun k l _ _ _ id h=>(by cases h),by omega⟩
 simp only[lq,sx,SO.run]
 refine KS (V:=fun _=>.nils) hR hK hb (by simp[St,sx]) (by simp[sx]) (by simp[sx]) hH f0 ⟨fun i hi=>by omega,fun q i _ _ hi=>by omega,by simp,by simp⟩ ?_ rfl
 clear hH
 rintro t g V E Rt ⟨h2,h3,h4,-⟩ h5 hH hB hD hV1
 simp only[jK,sx,SO.run,↓reduceIte]
 refine KY hN hK hb hb.r (by simp[St,sx,h2,h3,h4]) (by simp[sx,h5]) (by simp[sx,hV1]) (by simp[sx]) hH hB hD ?_
 clear h2 h3 h4 h5 hH hB hD
 intro t g V E c F ht h5 h8 hH hB hD
 simp only[sx,↓reduceIte]
 exact bk3 hK hb.r hb.n ht h5 h8 hH hB hD
end
end Hx
end
section
namespace Hx
open Go
noncomputable section
theorem Gu {m:Causal}(h:Made m):(1<=m.nodes.length/\m.nodes.length<=4)/\(∀x∈m.nodes,x.card=2\/x.card=3)/\Bnd 20000 m:=by
 obtain ⟨e,c,R,F,N,O,num,rfl,hn,hg,hF,hR,hN,hlt,hinj,hsur,hnd⟩:=h.ex
 refine ⟨by simpa [mkM] using hn,fun x hx=>?_,?_⟩
 ·obtain ⟨i,hi,rfl⟩:=List.mem_map.1 hx
  exact hF.card i (List.mem_range.1 hi)
 ·refine ⟨by show R.length<=_;omega,fun r hr=>?_,by simp[mkM];omega,fun x hx=>?_⟩
  ·obtain ⟨q,z,-,-,-,rfl⟩:=hF.roots r hr
   have:=uL e.gr q z
   omega
  ·obtain ⟨i,hi,rfl⟩:=List.mem_map.1 hx
   have hi:=List.mem_range.1 hi
   obtain ⟨k,hk,rfl⟩:=hsur i hi
   refine ⟨by have:=(hnd k hk).len;show (F (num k)).length<=_;omega,by have:=hN (num k);show (N (num k)).length<=_;omega,?_⟩
   show (O (num k)).length<=_
   rw[(hnd k hk).outs]
   refine Nat.le_trans o8 ?_
   have hb:=pN hF (hnd k hk).places (hF.inc _ hi)
   have:=bD (l:=szs c R (F (num k)) (N (num k))) fun y hy=>by have:=hb y hy;omega
   have hl4:(szs c R (F (num k)) (N (num k))).length<=7:=by have:=(hnd k hk).len;have:=hN (num k);simp[szs];omega
   have:=ch hl4
   have:(4:Int) ^ 7=16384:=by decide
   omega
theorem Bnd.up {K K':Nat}{m:Causal}(h:Bnd K m)(hk:K<=K'):Bnd K' m :=
 ⟨by have:=h.r;omega,fun x hx=>by have:=h.rr x hx;omega,by have:=h.n;omega,fun x hx=>by have:=h.f x hx;omega⟩
end
end Hx
end
section
namespace Hx
open Go
noncomputable section
theorem Ba (g:G):ak C0 1 N.bK [] g=.val (.bool true):=by kernel_rfl
end
end Hx
end
section
namespace Hx
open Go
noncomputable section
theorem Lq {c1 c2 c3:List AV}(h1:c1.length=5)(h2:c2.length=5)(h3:c3.length=5):b8 (.cells 15 [c1++(c2++c3)] 0 false false) 0 0 true 5 0=.val (.agg c1)/\b8 (.cells 15 [c1++(c2++c3)] 0 false false) 0 0 true 5 5=.val (.agg c2) /\
  b8 (.cells 15 [c1++(c2++c3)] 0 false false) 0 0 true 5 10=.val (.agg c3):=by
 match c1,c2,c3,h1,h2,h3 with
 | [_,_,_,_,_],[_,_,_,_,_],[_,_,_,_,_],_,_,_=>exact ⟨rfl,rfl,rfl⟩
theorem KN (id:Nat):si 3 5 (.hptr id 0 0 0) (.int .i64 0)=.val (.hptr id 0 0 0)/\si 3 5 (.hptr id 0 0 0) (.int .i64 1)=.val (.hptr id 0 0 5)/\si 3 5 (.hptr id 0 0 0) (.int .i64 2)=.val (.hptr id 0 0 10):=by
 refine ⟨?_,?_,?_⟩
 ·exact qf 3 5 id 0 0 0 .i64 (j:=0) (by decide)
 ·exact qf 3 5 id 0 0 0 .i64 (j:=1) (by decide)
 ·exact qf 3 5 id 0 0 0 .i64 (j:=2) (by decide)
end
end Hx
end
section
namespace Hx
open Go
noncomputable section
theorem sG {l:List Int}{v:AV}{h:H}(hl:SlR NoP 0 .nil l v):Rp.rp (fun _=>True) 0 h l [v]:=by
 obtain ⟨w,hw,q⟩:=Rp.tree (P:=fun _=>True) (k':=0) (h':=h) (show Rp.rp NoP 0 .nil l [v] from ⟨v,rfl,hl⟩) (Nat.le_refl _)
 exact ⟨w,hw,q⟩
theorem Li {a b:List Int}{va vb:AV}{q:Nat}{h:H}(ha:SlR NoP 0 .nil a va)(hb:SlR NoP 0 .nil b vb)(hq:h.get q=.cells 1 [[va],[vb]] 0 false false):SlR (fun _=>True) 0 h [a,b] (.hsl q 0 0 2 none):=by
 refine ⟨by show 2<_;decide,trivial,[[va],[vb]],?_,sG ha,sG hb,trivial⟩
 show ah h 1 _=_
 simp only[ah,hq];rfl
theorem Lm {a b c:List Int}{va vb vc:AV}{q:Nat}{h:H}(ha:SlR NoP 0 .nil a va)(hb:SlR NoP 0 .nil b vb)(hc:SlR NoP 0 .nil c vc)(hq:h.get q=.cells 1 [[va],[vb],[vc]] 0 false false):SlR (fun _=>True) 0 h [a,b,c] (.hsl q 0 0 3 none):=by
 refine ⟨by show 3<_;decide,trivial,[[va],[vb],[vc]],?_,sG ha,sG hb,sG hc,trivial⟩
 show ah h 1 _=_
 simp only[ah,hq];rfl
theorem J1 (id:Nat):si 3 1 (.hptr id 0 0 0) (.int .i64 0)=.val (.hptr id 0 0 0)/\si 3 1 (.hptr id 0 0 0) (.int .i64 1)=.val (.hptr id 0 0 1)/\si 3 1 (.hptr id 0 0 0) (.int .i64 2)=.val (.hptr id 0 0 2):=by
 refine ⟨?_,?_,?_⟩
 ·exact qf 3 1 id 0 0 0 .i64 (j:=0) (by decide)
 ·exact qf 3 1 id 0 0 0 .i64 (j:=1) (by decide)
 ·exact qf 3 1 id 0 0 0 .i64 (j:=2) (by decide)
theorem Ip (a b:Int):Ck true (.flat [.int .i64,.int .i64]) (.agg [.int .i64 a,.int .i64 b]) (.agg [.int .i64 a,.int .i64 b])=.val (.bool false):=by
 have ha:Do a a=true:=by rw[pz];simp
 have hb:Do b b=true:=by rw[pz];simp
 simp only[Ck,eqA,cR,dn,l6,ha,hb]
 rfl
theorem FW {m:Causal}{a b:List Int}(h:S.aw m [a,b]=0):S.am m=true/\S.ax m a=true/\S.ax m b=true:=by
 unfold S.aw at h
 cases hc:S.am m<;>rw[hc] at h<;>simp at h
 cases ha:S.ax m a<;>cases hb:S.ax m b<;>simp_all
theorem BK {m:Causal}{a b c:List Int}(h:S.aw m [a,b,c]=0):S.am m=true/\S.ax m a=true/\S.ax m b=true/\S.ax m c=true:=by
 unfold S.aw at h
 cases hc:S.am m<;>rw[hc] at h<;>simp at h
 cases ha:S.ax m a<;>cases hb:S.ax m b<;>cases hd:S.ax m c<;>simp_all
def LQ2 (w c28 vi:AV)(p:Nat):List (Nat×AV):=[(2,w),(7,.hptr 2 0 0 0),(9,.hptr 3 0 0 0),(11,.hptr p 0 0 0),(28,c28),(29,vi)]
def LS2 (w c28 vi c90 vj:AV)(p q:Nat):List (Nat×AV):=[(2,w),(7,.hptr 2 0 0 0),(9,.hptr 3 0 0 0),(11,.hptr p 0 0 0),(28,c28),(29,vi),(90,c90),(91,vj),(13,.hptr q 0 0 0)]
structure HS (m:Causal) (c1 c2 la lb lc:AV) (p q:Nat) (gb g:G):Prop where
 fr:Fr gb g
 mp:g.h.get p=.cells 3 [[.int .i64 m.grain,c1,c2]] 0 false false
 ml:g.h.get q=.cells 3 [[la,lb,lc]] 0 false false
 pn:p<gb.nx
 q0:gb.nx<=q
 qn:q<g.nx
theorem HS.step {m:Causal}{c1 c2 la lb lc:AV}{p q:Nat}{gb g g':G}(h:HS m c1 c2 la lb lc p q gb g)(hn:g.nx<=g'.nx)(hf:∀i,i<gb.nx\/i=q->g'.h.get i=g.h.get i):HS m c1 c2 la lb lc p q gb g' :=
 ⟨⟨Nat.le_trans h.fr.1 hn,fun i hi=>by rw[hf i (.inl hi),h.fr.2 i hi]⟩,by rw[hf p (.inl h.pn),h.mp],by rw[hf q (.inr rfl),h.ml],h.pn,h.q0,Nat.lt_of_lt_of_le h.qn hn⟩
section
variable {m:Causal}{c1 c2 la lb lc w c28 vi c90 vj:AV}{A B Z:List Int}{p q:Nat}
structure C1 (m:Causal) (c1 c2 la lb lc w c28 vi c90 vj:AV) (p q:Nat) (gb:G) (E:QI) (R:Int) (e:Nat) (t:T) (g:G):Prop where
 st:St t (LS2 w c28 vi c90 vj p q)
 hs:HS m c1 c2 la lb lc p q gb g
 t14:tat t 14=.hptr e 0 0 0
 t15:tat t 15=.int .i64 R
 e0:q<e
 en:e<g.nx
 he:g.h.get e=.cells 2 [[.int .i64 E.1,.int .i64 E.2]] 0 false false
structure C3 (m:Causal) (c1 c2 la lb lc w c28 vi c90 vj:AV) (p q:Nat) (gb:G) (E:QI) (R:Int) (e:Nat) (F:QI) (R2:Int) (f:Nat) (t:T) (g:G):Prop where
 c1:C1 m c1 c2 la lb lc w c28 vi c90 vj p q gb E R e t g
 t16:tat t 16=.int .i64 R2
 t17:tat t 17=.hptr f 0 0 0
 f0:q<f
 fn:f<g.nx
 ef:e≠f
 hf:g.h.get f=.cells 2 [[.int .i64 F.1,.int .i64 F.2]] 0 false false
def Ge:SC:=.seq (.ops [o 93 (.ix true 4 3 (.t 90) (.t 91)),o 13 (.alloc [.nils,.nils,.nils]),oz (.store 3 (.t 13) (.t 93))]) (.seq (.ops [o 95 (.load true 3 (.t 11)),o 96 (.ixa 3 1 (.t 13) (.k (.int .i64 1))),o 97 (.load false 1 (.t 96)),o 98 (.ixa 3 1 (.t 13) (.k (.int .i64 2))),o 99 (.load false 1 (.t 98)),o 100 (.call N.aA [.t 95,.t 97,.t 99]),o 94 (.mv (.t 100)),o 101 (.ext (.t 94) 0),o 102 (.ext (.t 94) 1),o 14 (.alloc [.int .i64 0,.int .i64 0]),oz (.store 2 (.t 14) (.t 101)),o 15 (.mv (.t 102))]) (.seq (.ops [o 103 (.load true 3 (.t 11)),o 104 (.ixa 3 1 (.t 13) (.k (.int .i64 1))),o 105 (.load false 1 (.t 104)),o 106 (.ixa 3 1 (.t 13) (.k (.int .i64 2))),o 107 (.load false 1 (.t 106)),o 108 (.bsl 1 2 [.nils] [0,1] [.t 105,.t 107]),o 109 (.call N.aK [.t 103,.t 108]),o 16 (.mv (.t 109))]) (.seq (.ops [o 17 (.alloc [.int .i64 0,.int .i64 0])]) (.seq (.seq (.ops [o 110 (.mv (.t 16)),o 111 (.bin .eql (.t 110) (.k (.int .i64 0)))]) (.cond (.t 111) (.ops [o 112 (.load true 3 (.t 11)),o 113 (.ixa 3 1 (.t 13) (.k (.int .i64 1))),o 114 (.load false 1 (.t 113)),o 115 (.ixa 3 1 (.t 13) (.k (.int .i64 2))),o 116 (.load false 1 (.t 115)),o 117 (.call N.aN [.t 112,.t 114,.t 116]),oz (.store 2 (.t 17) (.t 117))]) (.skip))) bF))))
theorem IS {Q:QT}(hm:∀h,Agg m NoP 0 h (.agg [.int .i64 m.grain,c1,c2]))(hB:SlR NoP 0 .nil B lb)(hZ:SlR NoP 0 .nil Z lc){t:T}{gb:G}
  (ht:St t (LQ2 w c28 vi p)) (h90:tat t 90=c90) (h91:tat t 91=vj) (hix:ixV true 4 3 c90 vj=.val (.agg [la,lb,lc])) (hp:p<gb.nx) (hg:gb.h.get p=.cells 3 [[.int .i64 m.grain,c1,c2]] 0 false false)
  (fin:∀t g e f,C3 m c1 c2 la lb lc w c28 vi c90 vj p gb.nx gb (S.aY m B Z) (S.aw m [B,Z]) e (S.aY m B Z) (S.aw m [B,Z]) f t g->wp C0 1 none bF Q t [] g) :
  wp C0 1 none Ge Q t [] gb:=by
 unfold Ge
 obtain ⟨i0,i1,i2⟩:=J1 gb.nx
 have l0:b8 (.cells 3 [[la,lb,lc]] 0 false false) 0 0 false 1 0=.val la:=rfl
 have l1:b8 (.cells 3 [[la,lb,lc]] 0 false false) 0 0 false 1 1=.val lb:=rfl
 have l2:b8 (.cells 3 [[la,lb,lc]] 0 false false) 0 0 false 1 2=.val lc:=rfl
 refine dT (P:=fun t' df g'=>df=[]/\St t' (LS2 w c28 vi c90 vj p gb.nx)/\HS m c1 c2 la lb lc p gb.nx gb g') ?_ ?_
 ·obtain ⟨h2,h7,h9,h11,h28,h29,-⟩:=ht
  simp only[sx,sy,SO.run,↓reduceIte,Nat.reduceEqDiff,Nat.reduceAdd,Nat.reduceLeDiff,h90,h91,hix]
  refine ⟨?_,?_⟩
  ·simp[St,LS2,sx,h2,h7,h9,h11,h28,h29,h90,h91]
  ·refine ⟨Ka (by simp) fun i hi=>by simp[H.get_put,show ¬i=gb.nx by omega],?_,by simp[H.get_put],hp,Nat.le_refl _,by simp⟩
   simp[H.get_put,show ¬p=gb.nx by omega,hg]
 clear ht h90 h91
 rintro t df g ⟨rfl,ht,hs⟩
 have hef:=fun g:G=>Fw (d:=1) (g:=g) (m:=m) (al:=B) (ql:=Z) (by decide) hm (hB.tree (h':=g.h) (Nat.le_refl 0)) (hZ.tree (h':=g.h) (Nat.le_refl 0))
 obtain ⟨E,hE⟩:∃E,E=S.aY m B Z:=⟨_,rfl⟩
 rw[<-hE] at hef fin
 obtain ⟨e,hee⟩:∃e,e=g.nx:=⟨_,rfl⟩
 refine dT (P:=fun t' df g'=>df=[]/\C1 m c1 c2 la lb lc w c28 vi c90 vj p gb.nx gb E (S.aw m [B,Z]) e t' g') ?_ ?_
 ·obtain ⟨h2,h7,h9,h11,h28,h29,h90,h91,h13,-⟩:=ht
  have qn:=hs.qn
  have fg:=hs.fr.1
  simp only[sx,sy,SO.run,↓reduceIte,Nat.reduceEqDiff,Nat.reduceAdd,Nat.reduceLeDiff,h11,h13,hs.mp,hs.ml,i1,i2,l1,l2,hef]
  subst hee
  exact ⟨by simp[St,LS2,sx,h2,h7,h9,h11,h28,h29,h90,h91,h13],hs.step (by simp) fun i hi=>by simp[H.get_put,show ¬i=g.nx by omega],by simp[sx],by simp[sx],qn,by simp,by simp[H.get_put]⟩
 clear ht hs hef hee
 rintro t df g ⟨rfl,h⟩
 refine dT (P:=fun t' df g'=>df=[]/\C1 m c1 c2 la lb lc w c28 vi c90 vj p gb.nx gb E (S.aw m [B,Z]) e t' g'/\tat t' 16=.int .i64 (S.aw m [B,Z])) ?_ ?_
 ·obtain ⟨⟨h2,h7,h9,h11,h28,h29,h90,h91,h13,-⟩,hs,h14,h15,e0,en,he⟩:=h
  have qn:=hs.qn
  have fg:=hs.fr.1
  have hrf:=wv (g:=g.new (.cells 1 [[lb],[lc]] 0 false false)) (d:=1) (P:=NoP) (P2:=fun _=>True) (k:=0) (k2:=0) (m:=m) (ls:=[B,Z]) (w:=.hsl g.nx 0 0 2 none) (by decide) (hm _) (Li hB hZ (by simp[H.get_put]))
  simp only[sx,sy,SO.run,↓reduceIte,Nat.reduceEqDiff,Nat.reduceAdd,Nat.reduceLeDiff,h11,h13,hs.mp,hs.ml,i1,i2,l1,l2,rJ hB.cell.1 hB.cell.2 hZ.cell.1 hZ.cell.2,hrf]
  exact ⟨by simp[St,LS2,sx,h2,h7,h9,h11,h28,h29,h90,h91,h13],hs.step (by simp) fun i hi=>by simp[H.get_put,show ¬i=g.nx by omega],by simp[sx,h14],by simp[sx,h15],e0,by simp;omega,by simp[H.get_put,show ¬e=g.nx by omega,he]⟩
 clear h
 rintro t df g ⟨rfl,h,h16⟩
 obtain ⟨f,hff⟩:∃f,f=g.nx:=⟨_,rfl⟩
 refine dT (P:=fun t' df g'=>df=[]/\C3 m c1 c2 la lb lc w c28 vi c90 vj p gb.nx gb E (S.aw m [B,Z]) e (0,0) (S.aw m [B,Z]) f t' g') ?_ ?_
 ·obtain ⟨⟨h2,h7,h9,h11,h28,h29,h90,h91,h13,-⟩,hs,h14,h15,e0,en,he⟩:=h
  have qn:=hs.qn
  have fg:=hs.fr.1
  simp only[sx,sy,SO.run,Nat.reduceAdd]
  subst hff
  exact ⟨⟨by simp[St,LS2,sx,h2,h7,h9,h11,h28,h29,h90,h91,h13],hs.step (by simp) fun i hi=>by simp[H.get_put,show ¬i=g.nx by omega],by simp[sx,h14],by simp[sx,h15],e0,by simp;omega,by simp[H.get_put,show ¬e=g.nx by omega,he]⟩,
   by simp[sx,h16],by simp[sx],qn,by simp,by omega,by simp[H.get_put]⟩
 clear h h16 hff
 rintro t df g ⟨rfl,h⟩
 refine BW (P:=fun t' df g'=>df=[]/\C3 m c1 c2 la lb lc w c28 vi c90 vj p gb.nx gb E (S.aw m [B,Z]) e E (S.aw m [B,Z]) f t' g') ?_ ?_
 ·obtain ⟨⟨⟨h2,h7,h9,h11,h28,h29,h90,h91,h13,-⟩,hs,h14,h15,e0,en,he⟩,h16,h17,f0,fn,hef,hf⟩:=h
  have qn:=hs.qn
  have fg:=hs.fr.1
  by_cases hr:S.aw m [B,Z]=0
  ·obtain ⟨r1,r2,r3⟩:=FW hr
   have hre:=fun g:G=>Dc (d:=1) (g:=g) (P:=NoP) (P2:=NoP) (P3:=NoP) (k0:=0) (k2:=0) (k3:=0) (m:=m) (al:=B) (ql:=Z) (by decide) (hm g.h) (hB.tree (h':=g.h) (Nat.le_refl 0)) (hZ.tree (h':=g.h) (Nat.le_refl 0)) r1 r2 r3
   have hEe:E=S.aD (S.aU m B Z).toNat (S.aP m).toNat:=by rw[hE,S.aY,if_pos hr]
   rw[<-hEe] at hre
   rw[hr] at h15 h16 ⊢
   simp only[sx,sy,SO.run,↓reduceIte,Nat.reduceEqDiff,Nat.reduceAdd,Nat.reduceLeDiff,h11,h13,h16,h17,hs.mp,hs.ml,i1,i2,l1,l2,hre,hf,decide_true]
   exact ⟨⟨by simp[St,LS2,sx,h2,h7,h9,h11,h28,h29,h90,h91,h13],hs.step (by simp) fun i hi=>by simp[H.get_put,show ¬i=f by omega],by simp[sx,h14],by simp[sx,h15],e0,by simpa using en,by simp[H.get_put,hef,he]⟩,
    by simp[sx,h16],by simp[sx,h17],f0,by simpa using fn,hef,by simp[H.get_put]⟩
  ·have hE0:E=(0,0):=by rw[hE,S.aY,if_neg hr]
   simp only[sx,sy,SO.run,↓reduceIte,h16,hr,decide_false]
   exact ⟨⟨by simp[St,LS2,sx,h2,h7,h9,h11,h28,h29,h90,h91,h13],hs,by simp[sx,h14],by simp[sx,h15],e0,en,he⟩,by simp[sx,h16],by simp[sx,h17],f0,fn,hef,by rw[hf,hE0]⟩
 clear h
 rintro t df g ⟨rfl,h⟩
 exact fin t g e f h
end
end
end Hx
end
section
namespace Hx
open Go
noncomputable section
section
variable {m:Causal}{c1 c2 la lb lc w c28 vi c90 vj:AV}{A B Z:List Int}{p q:Nat}
theorem Jg {Q:QT}(hm:∀h,Agg m NoP 0 h (.agg [.int .i64 m.grain,c1,c2]))(hA:SlR NoP 0 .nil A la)(hB:SlR NoP 0 .nil B lb)(hZ:SlR NoP 0 .nil Z lc){t:T}{gb g:G}{e f:Nat}{E:QI}{R:Int}
  (h:C3 m c1 c2 la lb lc w c28 vi c90 vj p q gb E R e E R f t g)
  (fin:∀t g,St t (LS2 w c28 vi c90 vj p q)->Fr gb g->Q .norm t [] g) :
  wp C0 1 none bF Q t [] g:=by
 simp only[bF]
 obtain ⟨i0,i1,i2⟩:=J1 q
 have l0:b8 (.cells 3 [[la,lb,lc]] 0 false false) 0 0 false 1 0=.val la:=rfl
 have l1:b8 (.cells 3 [[la,lb,lc]] 0 false false) 0 0 false 1 1=.val lb:=rfl
 have l2:b8 (.cells 3 [[la,lb,lc]] 0 false false) 0 0 false 1 2=.val lc:=rfl
 refine BW (P:=fun t' df g'=>df=[]/\C3 m c1 c2 la lb lc w c28 vi c90 vj p q gb E R e E R f t' g') ?_ ?_
 ·obtain ⟨⟨⟨h2,h7,h9,h11,h28,h29,h90,h91,h13,-⟩,hs,h14,h15,e0,en,he⟩,h16,h17,f0,fn,hef,hf⟩:=h
  simp only[sx,sy,SO.run,↓reduceIte,Nat.reduceEqDiff,Nat.reduceAdd,Nat.reduceLeDiff,h14,h15,h16,h17,he,hf,Ip,decide_true,Bool.not_true]
  exact ⟨⟨by simp[St,LS2,sx,h2,h7,h9,h11,h28,h29,h90,h91,h13],hs,by simp[sx,h14],by simp[sx,h15],e0,en,he⟩,by simp[sx,h16],by simp[sx,h17],f0,fn,hef,hf⟩
 clear h
 rintro t df g ⟨rfl,h⟩
 have hce:=fun g:G=>CM (d:=1) (g:=g) (m:=m) (ee:=A) (al:=B) (ql:=Z) (by decide) hm (hA.tree (h':=g.h) (Nat.le_refl 0)) (hB.tree (h':=g.h) (Nat.le_refl 0)) (hZ.tree (h':=g.h) (Nat.le_refl 0))
 obtain ⟨D,hD⟩:∃D,D=S.aW m A B Z:=⟨_,rfl⟩
 rw[<-hD] at hce
 refine dT (P:=fun t' df g'=>df=[]/\C3 m c1 c2 la lb lc w c28 vi c90 vj p q gb D (S.aM m A B Z) e E R f t' g') ?_ ?_
 ·obtain ⟨⟨⟨h2,h7,h9,h11,h28,h29,h90,h91,h13,-⟩,hs,h14,h15,e0,en,he⟩,h16,h17,f0,fn,hef,hf⟩:=h
  have fg:=hs.fr.1
  have q0:=hs.q0
  simp only[sx,sy,SO.run,↓reduceIte,Nat.reduceEqDiff,Nat.reduceAdd,Nat.reduceLeDiff,h11,h13,h14,hs.mp,hs.ml,i0,i1,i2,l0,l1,l2,hce,he]
  exact ⟨⟨by simp[St,LS2,sx,h2,h7,h9,h11,h28,h29,h90,h91,h13],hs.step (by simp) fun i hi=>by simp[H.get_put,show ¬i=e by omega],by simp[sx,h14],by simp[sx],e0,by simpa using en,by simp[H.get_put]⟩,
   by simp[sx,h16],by simp[sx,h17],f0,by simpa using fn,hef,by simp[H.get_put,Ne.symm hef,hf]⟩
 clear h hce
 rintro t df g ⟨rfl,h⟩
 refine dT (P:=fun t' df g'=>df=[]/\C3 m c1 c2 la lb lc w c28 vi c90 vj p q gb D (S.aM m A B Z) e E (S.aw m [A,B,Z]) f t' g') ?_ ?_
 ·obtain ⟨⟨⟨h2,h7,h9,h11,h28,h29,h90,h91,h13,-⟩,hs,h14,h15,e0,en,he⟩,h16,h17,f0,fn,hef,hf⟩:=h
  have fg:=hs.fr.1
  have qn:=hs.qn
  have hrf:=wv (g:=g.new (.cells 1 [[la],[lb],[lc]] 0 false false)) (d:=1) (P:=NoP) (P2:=fun _=>True) (k:=0) (k2:=0) (m:=m) (ls:=[A,B,Z]) (w:=.hsl g.nx 0 0 3 none) (by decide) (hm _) (Lm hA hB hZ (by simp[H.get_put]))
  simp only[sx,sy,SO.run,↓reduceIte,Nat.reduceEqDiff,Nat.reduceAdd,Nat.reduceLeDiff,h11,h13,hs.mp,hs.ml,i0,i1,i2,l0,l1,l2,oU hA.cell.1 hA.cell.2 hB.cell.1 hB.cell.2 hZ.cell.1 hZ.cell.2,hrf]
  exact ⟨⟨by simp[St,LS2,sx,h2,h7,h9,h11,h28,h29,h90,h91,h13],hs.step (by simp) fun i hi=>by simp[H.get_put,show ¬i=g.nx by omega],by simp[sx,h14],by simp[sx,h15],e0,by simp;omega,by simp[H.get_put,show ¬e=g.nx by omega,he]⟩,
   by simp[sx],by simp[sx,h17],f0,by simp;omega,hef,by simp[H.get_put,show ¬f=g.nx by omega,hf]⟩
 clear h
 rintro t df g ⟨rfl,h⟩
 refine dT (P:=fun t' df g'=>df=[]/\C3 m c1 c2 la lb lc w c28 vi c90 vj p q gb D (S.aM m A B Z) e (0,0) (S.aw m [A,B,Z]) f t' g') ?_ ?_
 ·obtain ⟨⟨⟨h2,h7,h9,h11,h28,h29,h90,h91,h13,-⟩,hs,h14,h15,e0,en,he⟩,h16,h17,f0,fn,hef,hf⟩:=h
  have fg:=hs.fr.1
  have q0:=hs.q0
  simp only[sx,sy,SO.run,↓reduceIte,Nat.reduceEqDiff,Nat.reduceAdd,Nat.reduceLeDiff,h17,hf]
  exact ⟨⟨by simp[St,LS2,sx,h2,h7,h9,h11,h28,h29,h90,h91,h13],hs.step (by simp) fun i hi=>by simp[H.get_put,show ¬i=f by omega],by simp[sx,h14],by simp[sx,h15],e0,by simpa using en,by simp[H.get_put,hef,he]⟩,
   by simp[sx,h16],by simp[sx,h17],f0,by simpa using fn,hef,by simp[H.get_put]⟩
 clear h
 rintro t df g ⟨rfl,h⟩
 refine BW (P:=fun t' df g'=>df=[]/\C3 m c1 c2 la lb lc w c28 vi c90 vj p q gb D (S.aM m A B Z) e D (S.aM m A B Z) f t' g') ?_ ?_
 ·obtain ⟨⟨⟨h2,h7,h9,h11,h28,h29,h90,h91,h13,-⟩,hs,h14,h15,e0,en,he⟩,h16,h17,f0,fn,hef,hf⟩:=h
  have fg:=hs.fr.1
  have q0:=hs.q0
  by_cases hr:S.aw m [A,B,Z]=0
  ·obtain ⟨r1,r2,r3,r4⟩:=BK hr
   have hrc:=fun g:G=>uo (d:=1) (g:=g) (P:=NoP) (P1:=NoP) (P2:=NoP) (P3:=NoP) (k0:=0) (k1:=0) (k2:=0) (k3:=0) (m:=m) (ee:=A) (al:=B) (ql:=Z) (by decide) (hm g.h) (hA.tree (h':=g.h) (Nat.le_refl 0)) (hB.tree (h':=g.h) (Nat.le_refl 0)) (hZ.tree (h':=g.h) (Nat.le_refl 0)) r1 r2 r3 r4
   rw[hr] at h16
   by_cases hs0:S.aK m A=0
   ·have hT:S.aM m A B Z=7:=by rw[S.aM,if_neg (by simp[hr]),if_pos hs0]
    have hD0:D=(0,0):=by rw[hD,S.aW,if_neg (by rw[hT];decide)]
    rw[hT] at h15 ⊢
    simp only[sx,sy,SO.run,↓reduceIte,Nat.reduceEqDiff,Nat.reduceAdd,Nat.reduceLeDiff,h11,h13,h16,hs.mp,hs.ml,i0,i1,i2,l0,l1,l2,hrc,hs0,decide_true]
    exact ⟨⟨by simp[St,LS2,sx,h2,h7,h9,h11,h28,h29,h90,h91,h13],hs,by simp[sx,h14],by simp[sx,h15],e0,en,he⟩,by simp[sx],by simp[sx,h17],f0,fn,hef,by rw[hf,hD0]⟩
   ·have hT:S.aM m A B Z=0:=by rw[S.aM,if_neg (by simp[hr]),if_neg hs0]
    have hDD:D=S.aD (S.a7 m A B Z).toNat (S.aK m A).toNat:=by rw[hD,S.aW,if_pos hT]
    have b1:=di r1 (S.mw m (S.au m) A)
    have b2:=di r1 (S.cw m A B Z)
    have h1:∀g,ak C0 1 N.ax [.int .i64 (S.a7 m A B Z),.int .i64 (S.aK m A)] g=.val (.agg [.int .i64 D.1,.int .i64 D.2]):=fun g=>by
     have h1:=GO (d:=1) (g:=g) (x:=(S.a7 m A B Z).toNat) (y:=(S.aK m A).toNat) (by decide) (by unfold S.a7;omega) (by unfold S.aK at hs0 ⊢;omega) (by unfold S.aK;omega)
     rw[Int.toNat_of_nonneg (show 0<=S.a7 m A B Z from b2.1),Int.toNat_of_nonneg (show 0<=S.aK m A from b1.1)] at h1
     rw[h1,hDD]
    rw[hT] at h15 ⊢
    simp only[sx,sy,SO.run,↓reduceIte,Nat.reduceEqDiff,Nat.reduceAdd,Nat.reduceLeDiff,h11,h13,h16,h17,hs.mp,hs.ml,i0,i1,i2,l0,l1,l2,hrc,hs0,decide_true,decide_false,h1,hf]
    exact ⟨⟨by simp[St,LS2,sx,h2,h7,h9,h11,h28,h29,h90,h91,h13],hs.step (by simp) fun i hi=>by simp[H.get_put,show ¬i=f by omega],by simp[sx,h14],by simp[sx,h15],e0,by simpa using en,by simp[H.get_put,hef,he]⟩,
     by simp[sx,h16],by simp[sx,h17],f0,by simpa using fn,hef,by simp[H.get_put]⟩
  ·have hT:S.aM m A B Z=S.aw m [A,B,Z]:=by rw[S.aM,if_pos hr]
   have hD0:D=(0,0):=by rw[hD,S.aW,if_neg (by rw[hT];exact hr)]
   rw[hT] at h15 ⊢
   simp only[sx,sy,SO.run,↓reduceIte,h16,hr,decide_false]
   exact ⟨⟨by simp[St,LS2,sx,h2,h7,h9,h11,h28,h29,h90,h91,h13],hs,by simp[sx,h14],by simp[sx,h15],e0,en,he⟩,by simp[sx,h16],by simp[sx,h17],f0,fn,hef,by rw[hf,hD0]⟩
 clear h
 rintro t df g ⟨rfl,h⟩
 obtain ⟨⟨⟨h2,h7,h9,h11,h28,h29,h90,h91,h13,-⟩,hs,h14,h15,e0,en,he⟩,h16,h17,f0,fn,hef,hf⟩:=h
 simp only[fI,sx,sy,SO.run,↓reduceIte,Nat.reduceEqDiff,Nat.reduceAdd,Nat.reduceLeDiff,h14,h15,h16,h17,he,hf,Ip,decide_true,Bool.not_true]
 exact fin _ _ (by simp[St,LS2,sx,h2,h7,h9,h11,h28,h29,h90,h91,h13]) hs.fr
end
end
end Hx
end
section
namespace Hx
open Go
noncomputable section
section
variable {m:Causal}{c1 c2 w c28 vi c90:AV}{p:Nat}
theorem KK {Q:QT}{x1 x2 x3 y1 y2 y3 z1 z2 z3 u1 u2 u3:AV}{X1 X2 X3 Y1 Y2 Y3 Z1 Z2 Z3 U1 U2 U3:List Int}(hm:∀h,Agg m NoP 0 h (.agg [.int .i64 m.grain,c1,c2]))
  (hx:SlR NoP 0 .nil X1 x1/\SlR NoP 0 .nil X2 x2/\SlR NoP 0 .nil X3 x3) (hy:SlR NoP 0 .nil Y1 y1/\SlR NoP 0 .nil Y2 y2/\SlR NoP 0 .nil Y3 y3) (hz:SlR NoP 0 .nil Z1 z1/\SlR NoP 0 .nil Z2 z2/\SlR NoP 0 .nil Z3 z3) (hu:SlR NoP 0 .nil U1 u1/\SlR NoP 0 .nil U2 u2/\SlR NoP 0 .nil U3 u3)
  (hc:c90=.agg [x1,x2,x3,y1,y2,y3,z1,z2,z3,u1,u2,u3]) {t:T} {g:G} (ht:St t (LQ2 w c28 vi p)) (h90:tat t 90=c90) (h91:tat t 91=.int .i64 0) (hp:p<g.nx) (hg:g.h.get p=.cells 3 [[.int .i64 m.grain,c1,c2]] 0 false false)
  (fin:∀t g',St t (LQ2 w c28 vi p)->Fr g g'->Q (.exit 2) t [] g') :
  wpL (wp C0 1 none bU) Q t [] g:=by
 simp only[bU,fO]
 refine uw (m:=4) rfl (by omega) (fun j t df g'=>df=[]/\St t (LQ2 w c28 vi p)/\tat t 90=c90/\Fr g g') ⟨rfl,ht,h90,Fr.refl _⟩ h91 (by decide) (by rintro j t df g v s (rfl | rfl | rfl)<;>simp[LQ2,St,sx]) ?_ ?_
 ·rintro j t df gb hj ⟨rfl,ht,h90,hfr⟩ h91
  have hp':p<gb.nx:=Nat.lt_of_lt_of_le hp hfr.1
  have hg':gb.h.get p=.cells 3 [[.int .i64 m.grain,c1,c2]] 0 false false:=by rw[hfr.2 p hp,hg]
  have key:∀(la lb lc:AV) (A B Z:List Int),ixV true 4 3 c90 (.int .i64 (j:Int))=.val (.agg [la,lb,lc])->SlR NoP 0 .nil A la/\SlR NoP 0 .nil B lb/\SlR NoP 0 .nil Z lc ->
    wp C0 1 none Ge (kR (fun t df g'=>(df=[]/\St t (LQ2 w c28 vi p)/\tat t 90=c90/\Fr g g')/\tat t 91=.int .i64 (j:Int)) 3 Q) t [] gb:=by
   rintro la lb lc A B Z hix ⟨hA,hB,hZ⟩
   refine IS hm hB hZ ht h90 h91 hix hp' hg' fun t g2 e f h3=>?_
   refine Jg hm hA hB hZ h3 fun t g3 ht fr=>?_
   obtain ⟨h2,h7,h9,h11,h28,h29,h90,h91,h13,-⟩:=ht
   rw[vy]
   exact ⟨⟨rfl,⟨h2,h7,h9,h11,h28,h29,trivial⟩,h90,hfr.trans fr⟩,h91⟩
  have hj4:j=0\/j=1\/j=2\/j=3:=by omega
  rcases hj4 with rfl | rfl | rfl | rfl
  ·exact key x1 x2 x3 _ _ _ (by rw[hc];rfl) hx
  ·exact key y1 y2 y3 _ _ _ (by rw[hc];rfl) hy
  ·exact key z1 z2 z3 _ _ _ (by rw[hc];rfl) hz
  ·exact key u1 u2 u3 _ _ _ (by rw[hc];rfl) hu
 ·rintro t df g' ⟨rfl,ht,-,hfr⟩
  exact fin t g' ht hfr
end
theorem tV {m:Causal}{cm:List AV}{vs:List UInt8}(hv:vs.length=5)(hm:∀h,Agg m NoP 0 h (.agg cm))(hn:m.nodes.length<=5)(hc:∀x∈m.nodes,0<x.card) :
  ∃r,(∀g,ak C0 1 N.aa [.agg (vs.map u8v),.agg cm] g=.val r)/\IT 0 (S.bL vs m) r:=by
 obtain ⟨r,h1,h2⟩:=xT (d:=1) (g:=G.empty) (k:=0) (P:=NoP) (by decide) hv (hm _) hn hc
 refine ⟨r,fun g=>?_,h2⟩
 rw[iZ] at h1 ⊢
 exact rW (by simp only[aH,me,cj 1 (hm _)]) (by simp only[aH,me,cj 1 (hm _)]) h1
theorem E7 {m:Causal}{cm:List AV}{w:AV}{raw:List Int}{vs:List UInt8}(hm:∀h,Agg m NoP 0 h (.agg cm))(hw:SlR NoP 0 .nil raw w)(hr:Raw w)(hv:vs.length=5)(hn:m.nodes.length<=5)(hc:∀x∈m.nodes,0<x.card) :
  ∃a b,(∀g,ak C0 1 N.af [.agg cm,w,.agg (vs.map u8v)] g=.val (.agg [a,b]))/\SlR NoP 0 .nil (raw.take 7) a:=by
 obtain ⟨r,h1,cl,rfl,hcl⟩:=F_ (d:=1) (g:=G.empty) (k:=0) (P:=NoP) (by decide) (hm _) hw hr hv hn hc
 obtain ⟨cl1,cl2,rfl,hl1,hl2⟩:=zV.1 hcl
 obtain ⟨l1,rfl,hq1⟩:=dk.1 hl1
 obtain ⟨l2,rfl,hq2⟩:=dk.1 hl2
 refine ⟨l1,l2,fun g=>?_,hq1⟩
 rw[mQ] at h1 ⊢
 exact rW (xs:=[.agg cm,w,.agg (vs.map u8v)]) (by simp only[aH,me,cj 1 (hm _),cG 1 (hw.tree (k':=0) (h':=g.h) (Nat.le_refl _))]) (by simp only[aH,me,cj 1 (hm _),cG 1 (hw.tree (k':=0) (h':=G.empty.h) (Nat.le_refl _))]) h1
def GS:SC:=.seq (.ops [o 31 (.ix true 2 3 (.t 28) (.t 29)),o 11 (.alloc [.int .i64 0,.nils,.nils]),oz (.store 3 (.t 11) (.t 31))]) (.seq (.quiet [o 32 (.ixa 3 5 (.t 7) (.k (.int .i64 0))),o 33 (.load true 5 (.t 32)),o 34 (.load true 3 (.t 9)),o 35 (.call N.aa [.t 33,.t 34]),o 36 (.ixa 3 5 (.t 7) (.k (.int .i64 1))),o 37 (.load true 5 (.t 36)),o 38 (.load true 3 (.t 9)),o 39 (.call N.aa [.t 37,.t 38]),o 40 (.ixa 3 5 (.t 7) (.k (.int .i64 2))),o 41 (.load true 5 (.t 40)),o 42 (.load true 3 (.t 9)),o 43 (.call N.aa [.t 41,.t 42]),o 44 (.build [.nils,.nils,.nils] [(0,1),(1,1),(2,1)] [.t 35,.t 39,.t 43]),o 45 (.load true 3 (.t 9)),o 46 (.mv (.t 2)),o 47 (.ixa 3 5 (.t 7) (.k (.int .i64 0))),o 48 (.load true 5 (.t 47)),o 49 (.call N.af [.t 45,.t 46,.t 48]),o 50 (.ix false 2 1 (.t 49) (.k (.int .i64 0))),o 51 (.ixa 3 5 (.t 7) (.k (.int .i64 1))),o 52 (.load true 5 (.t 51)),o 53 (.load true 3 (.t 9)),o 54 (.call N.aa [.t 52,.t 53]),o 55 (.ixa 3 5 (.t 7) (.k (.int .i64 2))),o 56 (.load true 5 (.t 55)),o 57 (.load true 3 (.t 9)),o 58 (.call N.aa [.t 56,.t 57]),o 59 (.build [.nils,.nils,.nils] [(0,1),(1,1),(2,1)] [.t 50,.t 54,.t 58]),o 60 (.ixa 3 5 (.t 7) (.k (.int .i64 0))),o 61 (.load true 5 (.t 60)),o 62 (.load true 3 (.t 9)),o 63 (.call N.aa [.t 61,.t 62]),o 64 (.load true 3 (.t 9)),o 65 (.mv (.t 2)),o 66 (.ixa 3 5 (.t 7) (.k (.int .i64 0))),o 67 (.load true 5 (.t 66)),o 68 (.call N.af [.t 64,.t 65,.t 67]),o 69 (.ix false 2 1 (.t 68) (.k (.int .i64 0))),o 70 (.ixa 3 5 (.t 7) (.k (.int .i64 2))),o 71 (.load true 5 (.t 70)),o 72 (.load true 3 (.t 9)),o 73 (.call N.aa [.t 71,.t 72]),o 74 (.build [.nils,.nils,.nils] [(0,1),(1,1),(2,1)] [.t 63,.t 69,.t 73]),o 75 (.ixa 3 5 (.t 7) (.k (.int .i64 0))),o 76 (.load true 5 (.t 75)),o 77 (.load true 3 (.t 9)),o 78 (.call N.aa [.t 76,.t 77]),o 79 (.ixa 3 5 (.t 7) (.k (.int .i64 1))),o 80 (.load true 5 (.t 79)),o 81 (.load true 3 (.t 9)),o 82 (.call N.aa [.t 80,.t 81]),o 83 (.load true 3 (.t 9)),o 84 (.mv (.t 2)),o 85 (.ixa 3 5 (.t 7) (.k (.int .i64 0))),o 86 (.load true 5 (.t 85)),o 87 (.call N.af [.t 83,.t 84,.t 86]),o 88 (.ix false 2 1 (.t 87) (.k (.int .i64 0))),o 89 (.build [.nils,.nils,.nils] [(0,1),(1,1),(2,1)] [.t 78,.t 82,.t 88]),o 90 (.build [.nils,.nils,.nils,.nils,.nils,.nils,.nils,.nils,.nils,.nils,.nils,.nils] [(0,3),(3,3),(6,3),(9,3)] [.t 44,.t 59,.t 74,.t 89]),o 91 (.mv (.k (.int .i64 0)))]) (.blk 2 (.loop bU)))
def LM2 (w c28 vi:AV):List (Nat×AV):=[(2,w),(7,.hptr 2 0 0 0),(9,.hptr 3 0 0 0),(28,c28),(29,vi)]
theorem zx {m m0:Causal}{c1 c2 w c28 vi:AV}{cm:List AV}{raw:List Int}{a0 a1 a2:List UInt8}{Q:QT}(hm:∀h,Agg m NoP 0 h (.agg [.int .i64 m.grain,c1,c2]))(hm0:∀h,Agg m0 NoP 0 h (.agg cm))(hcm:cm.length=3)
  (hn:m0.nodes.length<=5) (hc:∀x∈m0.nodes,0<x.card) (hw:SlR NoP 0 .nil raw w) (hraw:Raw w) (h0l:a0.length=5) (h1l:a1.length=5) (h2l:a2.length=5) {t:T} {g:G} (ht:St t (LM2 w c28 vi))
  (hix:ixV true 2 3 c28 vi=.val (.agg [.int .i64 m.grain,c1,c2])) (g2:g.h.get 2=.cells 15 [a0.map u8v++(a1.map u8v++a2.map u8v)] 0 false false) (g3:g.h.get 3=.cells 3 [cm] 0 false false) (hnx:4<=g.nx)
  (fin:∀t g',St t (LM2 w c28 vi)->Fr g g'->Q .norm t [] g') :
  wp C0 1 none GS Q t [] g:=by
 unfold GS
 refine dT (P:=fun t' df g'=>df=[]/\St t' (LQ2 w c28 vi g.nx)/\g'=(g.new (.cells 3 [[.int .i64 0,.nils,.nils]] 0 false false)).put g.nx (.cells 3 [[.int .i64 m.grain,c1,c2]] 0 false false)) ?_ ?_
 ·obtain ⟨h2,h7,h9,h28,h29,-⟩:=ht
  simp only[sx,sy,SO.run,↓reduceIte,Nat.reduceEqDiff,Nat.reduceAdd,Nat.reduceLeDiff,h28,h29,hix]
  simp[St,LQ2,sx,h2,h7,h9,h28,h29]
 clear ht
 rintro t df g1 ⟨rfl,ht,hg1⟩
 have k0:g1.h.get g.nx=.cells 3 [[.int .i64 m.grain,c1,c2]] 0 false false:=by rw[hg1];simp[H.get_put]
 have fr1:Fr g g1:=by rw[hg1];exact Ka (by simp) fun i hi=>by simp[H.get_put,show ¬i=g.nx by omega]
 have n1:g.nx<g1.nx:=by rw[hg1];simp
 clear hg1
 have e2:g1.h.get 2=.cells 15 [a0.map u8v++(a1.map u8v++a2.map u8v)] 0 false false:=by rw[fr1.2 2 (by omega),g2]
 have e3:g1.h.get 3=.cells 3 [cm] 0 false false:=by rw[fr1.2 3 (by omega),g3]
 obtain ⟨i0,i1,i2⟩:=KN 2
 obtain ⟨l0,l1,l2⟩:=Lq (c1:=a0.map u8v) (c2:=a1.map u8v) (c3:=a2.map u8v) (by simpa using h0l) (by simpa using h1l) (by simpa using h2l)
 have l3:b8 (.cells 3 [cm] 0 false false) 0 0 true 3 0=.val (.agg cm):=by
  match cm,hcm with
  | [_,_,_],_=>rfl
 obtain ⟨r0,k00,q0⟩:=tV h0l hm0 hn hc
 obtain ⟨r1,k01,q1⟩:=tV h1l hm0 hn hc
 obtain ⟨r2,k02,q2⟩:=tV h2l hm0 hn hc
 obtain ⟨ra,rb,k03,q3⟩:=E7 hm0 hw hraw h0l hn hc
 have ia:ixV false 2 1 (.agg [ra,rb]) (.int .i64 0)=.val ra:=rfl
 have s0:=q0.sl .nil
 have s1:=q1.sl .nil
 have s2:=q2.sl .nil
 obtain ⟨c90,hc90⟩:∃c,c=AV.agg [r0,r1,r2,ra,r1,r2,r0,ra,r2,r0,r1,ra]:=⟨_,rfl⟩
 refine BW (P:=fun t' df g'=>df=[]/\g'=g1/\St t' (LQ2 w c28 vi g.nx)/\tat t' 90=c90/\tat t' 91=.int .i64 0) ?_ ?_
 ·obtain ⟨h2,h7,h9,h11,h28,h29,-⟩:=ht
  have b3:∀x y z:AV,(x.cells=[x]/\x.isTup=false)->(y.cells=[y]/\y.isTup=false)->(z.cells=[z]/\z.isTup=false)->qH [.nils,.nils,.nils] [(0,1),(1,1),(2,1)] [x,y,z]=.val (.agg [x,y,z]):=by
   rintro x y z ⟨hx,tx⟩ ⟨hy,ty⟩ ⟨hz,tz⟩
   simp only[qH,List.zip_cons_cons,List.zip_nil_left,l_,hx,tx,hy,ty,hz,tz]
   rfl
  have b12:∀x1 x2 x3 y1 y2 y3 z1 z2 z3 u1 u2 u3:AV,qH [.nils,.nils,.nils,.nils,.nils,.nils,.nils,.nils,.nils,.nils,.nils,.nils] [(0,3),(3,3),(6,3),(9,3)] [.agg [x1,x2,x3],.agg [y1,y2,y3],.agg [z1,z2,z3],.agg [u1,u2,u3]]=.val (.agg [x1,x2,x3,y1,y2,y3,z1,z2,z3,u1,u2,u3]):=fun x1 x2 x3 y1 y2 y3 z1 z2 z3 u1 u2 u3=>rfl
  have w1:=b3 _ _ _ s0.cell s1.cell s2.cell
  have w2:=b3 _ _ _ q3.cell s1.cell s2.cell
  have w3:=b3 _ _ _ s0.cell q3.cell s2.cell
  have w4:=b3 _ _ _ s0.cell s1.cell q3.cell
  have w5:=b12 r0 r1 r2 ra r1 r2 r0 ra r2 r0 r1 ra
  simp only[sx,SO.run,↓reduceIte,Nat.reduceEqDiff,setLog_h,setLog_lg,setLog_nx,GI,h2,h7,h9,e2,e3,i0,i1,i2,l0,l1,l2,l3,k00,k01,k02,k03,ia,w1,w2,w3,w4,w5]
  simp[St,LQ2,sx,h2,h7,h9,h11,h28,h29,hc90]
 clear ht
 rintro t df g2 ⟨rfl,rfl,ht,h90,h91⟩
 simp only[AH,vw]
 refine KK hm ⟨s0,s1,s2⟩ ⟨q3,s1,s2⟩ ⟨s0,q3,s2⟩ ⟨s0,s1,q3⟩ hc90 ht h90 h91 n1 k0 fun t g4 ht fr2=>?_
 obtain ⟨h2,h7,h9,h11,h28,h29,-⟩:=ht
 simp only[jn,if_true]
 exact fin t g4 ⟨h2,h7,h9,h28,h29,trivial⟩ (fr1.trans fr2)
theorem sQ {x:Ak}{y:jg}{u1 u2 w:AV}{raw:List Int}{a0 a1 a2:List UInt8}(hx:Agg x NoP 0 .nil u1)(hy:Agg y NoP 0 .nil u2)
  (hw:SlR NoP 0 .nil raw w) (hraw:Raw w) (h0l:a0.length=5) (h1l:a1.length=5) (h2l:a2.length=5):∃g',(I C0).call 1 N.bJ [u1,u2,w,.agg (a0.map u8v++(a1.map u8v++a2.map u8v))] G.empty=.ok (.bool true) g':=by
 obtain ⟨xs,rfl,qx⟩:=hx
 obtain ⟨ys,rfl,qy⟩:=hy
 have hx':∀h,Agg x NoP 0 h (.agg xs):=fun h=>⟨_,rfl,Rp.tree qx (Nat.le_refl _)⟩
 have hy':∀h,Agg y NoP 0 h (.agg ys):=fun h=>⟨_,rfl,Rp.tree qy (Nat.le_refl _)⟩
 obtain ⟨a1',a2',a3',a4',e1,-⟩:=zi.1 qx
 have hxl:xs.length=5:=by rw[e1];rfl
 have hyl:ys.length=4:=by rw[B_.1 qy];rfl
 clear e1 a1' a2' a3' a4'
 have key:=nh (C:=C0) (d:=1) (f:=N.bJ) («as»:=[.agg xs,.agg ys,w,.agg (a0.map u8v++(a1.map u8v++a2.map u8v))]) (g:=G.empty) (K:=fun v g'=>v=.bool true) nX (by simp[d8]) ?_
 ·cases hc:(I C0).call 1 N.bJ [.agg xs,.agg ys,w,.agg (a0.map u8v++(a1.map u8v++a2.map u8v))] G.empty with
  | fail=>rw[hc] at key;exact key.elim
  | ok v g'=>rw[hc] at key;exact ⟨g',by rw[show v=.bool true from key]⟩
 clear qx qy
 obtain ⟨A,hA⟩:∃A,A=a0.map u8v++(a1.map u8v++a2.map u8v):=⟨_,rfl⟩
 have hAl:A.length=15:=by rw[hA];simp;omega
 rw[<-hA]
 simp only[d8,xU,sx,sy,SO.run,↓reduceIte,Nat.reduceEqDiff,Nat.reduceAdd]
 obtain ⟨g0,hg0⟩:∃g0,g0=((G.empty.new (AObj.cells xs.length [xs] 0 false false)).new (AObj.cells ys.length [ys] 0 false false)).new (AObj.cells A.length [A] 0 false false):=⟨_,rfl⟩
 rw[<-hg0]
 have f0:g0.h.get 0=.cells 5 [xs] 0 false false:=by rw[hg0,hxl];simp[sx,H.get_put]
 have f1:g0.h.get 1=.cells 4 [ys] 0 false false:=by rw[hg0,hyl];simp[sx,H.get_put]
 have f2:g0.h.get 2=.cells 15 [A] 0 false false:=by rw[hg0,hAl];simp[sx]
 have f4:g0.nx=3:=by rw[hg0];simp[sx]
 clear hg0
 have ld0:b8 (.cells 5 [xs] 0 false false) 0 0 true 5 0=.val (.agg xs):=by
  match xs,hxl with
  | [a,b,c,d,e],_=>rfl
 have ld1:b8 (.cells 4 [ys] 0 false false) 0 0 true 4 0=.val (.agg ys):=by
  match ys,hyl with
  | [a,b,c,d],_=>rfl
 simp only[f_]
 refine BW (P:=fun t' df g'=>df=[]/\g'=g0/\St t' [(2,w),(4,.hptr 0 0 0 0),(5,.hptr 1 0 0 0),(7,.hptr 2 0 0 0)]) ?_ ?_
 ·simp only[sx,sy,SO.run,↓reduceIte,Ba,Bool.not_true]
  simp[St,sx]
 rintro t df g1 ⟨rfl,rfl,ht⟩
 obtain ⟨rm,em,m0,hmade,cm,rfl,hcm⟩:=H7 (g:=g1) (d:=1) (by decide) (hx' _)
 obtain ⟨⟨hml1,hml⟩,hmc,hbnd⟩:=Gu hmade
 obtain ⟨p1,p2,rfl,-,-⟩:=aC.1 hcm
 have hM:∀h,Agg m0 NoP 0 h (.agg [.int .i64 m0.grain,p1,p2]):=fun h=>⟨_,rfl,Rp.tree hcm (Nat.le_refl _)⟩
 refine dT (P:=fun t' df g'=>df=[]/\St t' [(2,w),(5,.hptr 1 0 0 0),(7,.hptr 2 0 0 0),(9,.hptr 3 0 0 0)]/\g'.nx=4/\g'.h.get 1=.cells 4 [ys] 0 false false/\g'.h.get 2=.cells 15 [A] 0 false false/\g'.h.get 3=.cells 3 [[.int .i64 m0.grain,p1,p2]] 0 false false) ?_ ?_
 ·obtain ⟨h2,h4,h5,h7,-⟩:=ht
  simp only[sx,sy,SO.run,↓reduceIte,Nat.reduceEqDiff,Nat.reduceAdd,Nat.reduceLeDiff,h4,f0,ld0,em]
  simp[St,sx,h2,h5,h7,f4,f1,f2]
 clear ht em f0 f1 f2 f4 hcm
 rintro t df g2 ⟨rfl,ht,f4,f1,f2,f3⟩
 refine BW (P:=fun t' df g'=>df=[]) ?_ ?_
 ·refine BW (P:=fun t' df g'=>df=[]/\g'=g2/\∃(m1:Causal) (q1 q2:AV),(∀h,Agg m1 NoP 0 h (.agg [.int .i64 m1.grain,q1,q2]))/\St t' (LM2 w (.agg ([.int .i64 m0.grain,p1,p2]++[.int .i64 m1.grain,q1,q2])) (.int .i64 0))) ?_ ?_
  ·obtain ⟨h2,h5,h7,h9,-⟩:=ht
   simp only[sx,sy,SO.run,↓reduceIte,Nat.reduceEqDiff,Nat.reduceAdd,Nat.reduceLeDiff,h5,h9,f1,f3,ld1]
   refine a_ (FN (K:=20000) (by decide) (hy' _) (hM _) hbnd (by decide)) ?_
   rintro _ ⟨m1,hb1,cs,rfl,hcs⟩
   obtain ⟨q1,q2,rfl,-,-⟩:=aC.1 hcs
   simp only[sx,sy,SO.run,↓reduceIte,Nat.reduceEqDiff,Nat.reduceAdd,Nat.reduceLeDiff]
   refine ⟨m1,q1,q2,fun h=>⟨_,rfl,Rp.tree hcs (Nat.le_refl _)⟩,?_⟩
   simp[St,LM2,sx,h2,h7,h9]
  clear ht
  rintro t df g3 ⟨rfl,rfl,m1,q1,q2,hB,ht⟩
  simp only[AH,vw,fC,fw]
  obtain ⟨h2,h7,h9,h28,h29,-⟩:=ht
  generalize hc28:AV.agg ([AV.int .i64 m0.grain,p1,p2]++[AV.int .i64 m1.grain,q1,q2])=c28 at h28
  refine uw (m:=2) rfl (by omega) (fun j t df g=>df=[]/\St t [(2,w),(7,.hptr 2 0 0 0),(9,.hptr 3 0 0 0),(28,c28)]/\g.h.get 2=.cells 15 [A] 0 false false/\g.h.get 3=.cells 3 [[.int .i64 m0.grain,p1,p2]] 0 false false/\4<=g.nx)
   ⟨rfl,⟨h2,h7,h9,h28,trivial⟩,f2,f3,by omega⟩ h29 (by decide) (by rintro j t df g v s (rfl | rfl | rfl)<;>simp[St,sx]) ?_ ?_
  ·clear h2 h7 h9 h28 h29
   rintro j t df g hj ⟨rfl,⟨h2,h7,h9,h28,-⟩,e2,e3,hn⟩ h29
   have fin:∀t g',St t (LM2 w c28 (.int .i64 (j:Int)))->Fr g g' ->
     (([]:List ADf)=[]/\St t [(2,w),(7,.hptr 2 0 0 0),(9,.hptr 3 0 0 0),(28,c28)]/\g'.h.get 2=.cells 15 [A] 0 false false/\g'.h.get 3=.cells 3 [[.int .i64 m0.grain,p1,p2]] 0 false false/\4<=g'.nx)/\tat t 29=.int .i64 (j:Int):=fun t g' ht a8=>by
    obtain ⟨h2,h7,h9,h28,h29,-⟩:=ht
    exact ⟨⟨rfl,⟨h2,h7,h9,h28,trivial⟩,by rw[a8.2 2 (by omega),e2],by rw[a8.2 3 (by omega),e3],Nat.le_trans hn a8.1⟩,h29⟩
   have hmc':∀x∈m0.nodes,0<x.card:=fun x hx=>by rcases hmc x hx with h | h<;>omega
   rw[hA] at e2
   have hj2:j=0\/j=1:=by omega
   rcases hj2 with rfl | rfl
   ·exact zx hM hM rfl (by omega) hmc' hw hraw h0l h1l h2l ⟨h2,h7,h9,h28,h29,trivial⟩ (by rw[<-hc28];rfl) e2 e3 hn fin
   ·exact zx hB hM rfl (by omega) hmc' hw hraw h0l h1l h2l ⟨h2,h7,h9,h28,h29,trivial⟩ (by rw[<-hc28];rfl) e2 e3 hn fin
  ·rintro t df g ⟨rfl,-⟩
   simp only[jn,if_true]
   exact ⟨trivial,trivial⟩
 rintro t df g rfl
 simp only[fP,sx,SO.run,↓reduceIte]
end
end Hx
end
