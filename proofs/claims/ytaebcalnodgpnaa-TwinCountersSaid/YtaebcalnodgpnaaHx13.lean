/- A part of the proof: an interpreter over abstract values, shown right against the model, and what the functions of the chapter compute on it. -/
import Derived.Test.YtaebcalnodgpnaaHx12
set_option linter.unusedVariables false
set_option linter.unusedSimpArgs false
set_option linter.unnecessarySimpa false
section
namespace Hx
open Go
noncomputable section
theorem BF {l sz i n m:Nat}{rows:List (List AV)}{off:Nat}{k:IntKind}(h:m<n):si n 1 (.tptr l sz rows i off) (.int k (m:Int))=.val (.tptr l sz rows i (off+m)):=by
 show (az (Nat.blt m n) (OR.val (.tptr l sz rows i (off+m*1))) .fail)=_
 rw[aa,if_pos (by simpa using h),Nat.mul_one]
theorem E4 {α:Type} [Rp α]{k:Nat}{h h':H}{l:List α}{v:AV}{rows:List (List AV)}{s i off:Nat}(r:SlR NoP k h l v)(hr:ah h' s v=some rows)(hi:i<rows.length):∃t,ec s v i off=.tptr t s rows i off:=by
 have hb:=r.2
 cases v with
 | nils=>simp[ah] at hr;subst hr;simp at hi
 | esl=>simp[ah] at hr;subst hr;simp at hi
 | tsl tg sz rws =>
  simp only[ah,aa] at hr
  split at hr
  ·injection hr with hr;subst hr;exact ⟨tg,rfl⟩
  ·cases hr
 | hsl a b c d e=>exact hb.1.elim
 | _=>exact hb.elim
theorem Lk {d:Nat}{e:ME}{r6 b1:AV}{us:List (UInt8×UInt8)}{g0 x0 c0 e0:AV}{Q:QT}(hd:0<d)(he:e.Ok)(hr0:e.row0=[g0,x0,b1,c0,e0])(hb1:SlR NoP 0 .nil us b1){t:T}{g:G}{V:Nat->AV}{W:Nat->List (List AV)}{c:Nat->Int}{ow:List Bool}{R:List (List Int)}{N:Nat->List Int}(ht:MSt e r6 t)(h11:tat t 11=.int .i64 0)
  (hI:MI e g V W c ow R.length) (hD:MD e W R (fun _=>[]) N (fun _=>[])) (hF:MF e c R N) (hon:∀i,i<e.n->ow[i]?=some true->N i≠[]) (hRj:R.length<=4) (hN1:∀i,(N i).length<=1)
  (fin:∀t g V W R N,MSt e r6 t->MI e g V W c ow R.length->MD e W R (fun _=>[]) N (fun _=>[])->MF e c R N->(∀i,i<e.n->ow[i]?=some true->N i≠[])->R.length<=6->(∀i,(N i).length<=3)->Q (.exit 4) t [] g) :
  wpL (wp C0 d none dx) Q t [] g:=by
 have hoo:=he.ord
 have hn1:=he.n1
 have hg1:=he.g1
 obtain ⟨srows,s1,s2,s3,s4⟩:=hb1.all
 have s1:∀h',ah h' 2 b1=some srows:=s1
 have ryn:=eZ he.vn
 simp only[dx,gq]
 refine bB (min us.length 2) (by omega) (fun j t df g=>df=[]/\MSt e r6 t/\∃V W R N,MI e g V W c ow R.length/\MD e W R (fun _=>[]) N (fun _=>[])/\MF e c R N/\(∀i,i<e.n->ow[i]?=some true->N i≠[])/\R.length<=4+j/\∀i,(N i).length<=1+j)
  ⟨rfl,ht,V,W,R,N,hI,hD,hF,hon,hRj,hN1⟩ h11 (by decide)
  (by rintro j t df g v s (rfl | rfl | rfl)<;>simp[MSt,St,sx]) ?_ ?_ ?_
 ·rintro j t df g hj ⟨rfl,⟨h1,h2,h3,h4,h5,h6,h7,h9,-⟩,V,W,R,N,hI,hx⟩ h11
  have e0:=hI.h0
  rw[hr0] at e0
  simp only[sx,sy,SO.run,↓reduceIte,Nat.reduceEqDiff,h1,h11,e0,hb1.len]
  have fin:∀q:Bool,q=decide (j<min us.length 2)->AV.bool q=AV.bool (decide ((j:Int)<((min us.length 2:Nat):Int))):=fun q h=>by rw[h];congr 1;simp
  refine aw (fun hb=>?_) (fun hb=>?_)
  ·have hb:j<us.length:=by simpa using hb
   have hq:decide ((j:Int)<(us.length:Int))=true:=by simpa using hb
   simp only[sx,sy,SO.run,↓reduceIte,Nat.reduceEqDiff,h1,h2,h3,h4,h5,h6,h7,h9,h11,MSt,St,hq]
   exact ⟨fin _ (by simp;omega),V,W,R,N,hI,hx⟩
  ·have hb:¬j<us.length:=by simpa using hb
   have hq:decide ((j:Int)<(us.length:Int))=false:=by simpa using hb
   simp only[sx,sy,SO.run,↓reduceIte,Nat.reduceEqDiff,h1,h2,h3,h4,h5,h6,h7,h9,h11,MSt,St,hq]
   exact ⟨fin _ (by simp;omega),V,W,R,N,hI,hx⟩
 ·rintro j t df g hj ⟨rfl,⟨h1,h2,h3,h4,h5,h6,h7,h9,-⟩,V,W,R,N,hI,hD,hF,hon,hRj,hN1⟩ h11
  have hju:j<us.length:=by omega
  obtain ⟨⟨ua,ub⟩,hu⟩:∃y,us[j]?=some y:=⟨_,List.getElem?_eq_getElem hju⟩
  obtain ⟨row,q1,q2⟩:=s3 j _ hu
  rw[KF.1 q2] at q1
  have hjs:j<srows.length:=by omega
  have e0:=hI.h0
  rw[hr0] at e0
  have hpt:∃l,ec 2 b1 j 0=.tptr l 2 srows j 0:=E4 hb1 (s1 .nil) hjs
  obtain ⟨tl,hpt⟩:=hpt
  have ua8:ua.toNat<256:=ua.toNat_lt
  have ub8:ub.toNat<256:=ub.toNat_lt
  have ld:∀(g:G) (k:Nat) (v:AV),[u8v ua,u8v ub][k]?=some v->kI false 1 (.tptr tl 2 srows j (0+k)) g=.val v:=fun g k v hk=>by
   simp only[kI,ja,cD,q1,Nat.zero_add,vR,hk,orV]
  have ea:((ua.toNat:Int) % (e.n:Int))=((ua.toNat % e.n:Nat):Int):=by omega
  have eb:((ub.toNat:Int) % (e.n:Int))=((ub.toNat % e.n:Nat):Int):=by omega
  have la:ua.toNat % e.n<e.n:=Nat.mod_lt _ (by omega)
  have lb:ub.toNat % e.n<e.n:=Nat.mod_lt _ (by omega)
  generalize hA:ua.toNat % e.n=A at *
  generalize hB:ub.toNat % e.n=B at *
  have i0:∀k,si 2 1 (.tptr tl 2 srows j 0) (.int k 0)=.val (.tptr tl 2 srows j (0+0)):=fun k=>BF (m:=0) (by decide)
  have i1:∀k,si 2 1 (.tptr tl 2 srows j 0) (.int k 1)=.val (.tptr tl 2 srows j (0+1)):=fun k=>BF (m:=1) (by decide)
  simp only[sx,sy,SO.run,↓reduceIte,Nat.reduceEqDiff,h1,h3,h11,e0,s1,hjs,hpt,i0,i1,Option.isSome_some,Option.getD_some,ld _ 0 _ rfl,ld _ 1 _ rfl,u8v,
   an (show -9223372036854775808<=(ua.toNat:Int) by omega) (show (ua.toNat:Int)<9223372036854775808 by omega),an (show -9223372036854775808<=(ub.toNat:Int) by omega) (show (ub.toNat:Int)<9223372036854775808 by omega),
   bC .i64 (show (0:Int)<=(ua.toNat:Int) by omega) (show 0<(e.n:Int) by omega),bC .i64 (show (0:Int)<=(ub.toNat:Int) by omega) (show 0<(e.n:Int) by omega),ea,eb]
  refine aw (fun hb=>?_) (fun hb=>?_)
  ·have hAB:A≠B:=fun e=>by subst e;simp at hb
   have l0:=bh (hI.fam.1 0 (by omega)).rows
   rw[hD.len] at l0
   have hNr:=hI.hN.rows
   have hrf:=dJ hI.hN he.vn
   have hbb:=hI.nx
   have hlb:=hN1 A
   have hO:=hI.fam.1 (3*A+2) (by omega)
   simp only[sx,sy,sf,SO.run,↓reduceIte,Nat.reduceEqDiff,h4,l0,hI.h4,hNr,bS,la,ryn,bJ c (V) la,dz,Option.isSome_some,Option.getD_some]
   refine aJ (b:=e.b) (rows:=(W) (3*A+2)) (new:=[[.int .i64 ((R.length:Int))]]) (hO.fr (by simp;omega) (fun i' hi'=>?_)) (by simp[sx,sy]) (by simp;omega) (by rw[hD.n A la];simp[aZ];omega) fun v1 ga hv1 n1 f1 vid1 lg1=>?_
   ·have:=(hO.lt hi').2
    simp[H.get_put];omega
   simp only[sx,sy] at n1 f1 vid1 lg1
   have hP:=hI.grow (g':=ga) (k:=3*A+2) (rows':=(W) (3*A+2)++[[.int .i64 ((R.length:Int))]]) he (by omega) hv1 (by omega) (fun i' hi' hne=>by rw[f1 i' (by omega) hne,if_neg (by omega)]) (by rcases vid1 with h | ⟨i',h,hi'⟩;exact .inl h;exact .inr ⟨i',h,by omega⟩)
   have hNr2:=hP.hN.rows
   have hrf2:=dJ hP.hN he.vn
   simp only[sx,sy,sf,SO.run,↓reduceIte,Nat.reduceEqDiff,hNr2,bS,la,ryn,Option.isSome_some,Option.getD_some]
   refine bp (row:=dz c (V) A) (row':=dz c (aP (V) (3*A+2) v1) A) (hP.same he (by simp) (by simp;omega)).hN (bJ _ _ la) (by rw[hv1.cell.1];rfl) hv1.cell.2 ?_ fun g1 x2 n2 f2=>?_
   ·simp only[dz,hv1.cell.1,d7,sy,↓reduceIte,Nat.reduceAdd,Nat.reduceLeDiff,aB,ay (V) (k:=3*A+2) (j:=3*A+1) _ (by omega),ay (V) (k:=3*A+2) (j:=3*A+3) _ (by omega)]
   rw[gS rfl (fun i' hi'=>vC (by omega) hi')] at x2
   simp only[sy] at n2 f2
   have hI1:=hP.node (g':=g1) he x2 (ay _ _ (by omega)) (by omega) f2
   have hI1D:=hD.setN A ((N) A++[(R.length:Int)])
   rw[List.map_append,<-hD.n A la] at hI1D
   simp only[List.map_cons,List.map_nil,ci] at hI1D
   simp only[sx,sy,sf,SO.run,↓reduceIte,Nat.reduceEqDiff,h4]
   refine ⟨?_,?_⟩
   ·simp only[List.reverse_cons,List.reverse_nil,List.nil_append,List.cons_append,hrf]
    refine aX [false,false,false,false,false,false,false,false,false,false,false,false,true,true,false,false,true] [(0,12),(1,12),(2,12),(3,12),(4,12),(5,12),(6,12),(7,12),(8,12),(0,13),(1,13),(2,13)] (by simp[All2,au,aF]) (by decide) ?_
    rintro p hp x y hx hy
    simp only[List.mem_cons,List.not_mem_nil,or_false] at hp
    rcases hp with rfl | rfl | rfl | rfl | rfl | rfl | rfl | rfl | rfl | rfl | rfl | rfl<;>(simp at hx hy;subst hx;subst hy;refine dG rfl rfl rfl rfl ?_ ?_ ?_<;>simp[au,aF,bQ,hrf,bM ryn]<;>first | omega | (intro i' hi';rcases lg1 i' hi' with h | h<;>first | omega | simp at h) | skip)
   clear hNr hrf hbb hO hP hNr2 hrf2 x2 f2 n2 f1 n1 vid1 lg1 hlb
   have l0:=bh (hI1.fam.1 0 (by omega)).rows
   rw[hI1D.len] at l0
   have hNr:=hI1.hN.rows
   have hrf:=dJ hI1.hN he.vn
   have hbb:=hI1.nx
   have hlb:=(show ((aP N A (N A++[(R.length:Int)])) B).length<=100 from by have:=hN1 A;have:=hN1 B;unfold aP;split<;>simp<;>omega)
   have hO:=hI1.fam.1 (3*B+2) (by omega)
   simp only[sx,sy,sf,SO.run,↓reduceIte,Nat.reduceEqDiff,h4,l0,hI1.h4,hNr,bS,lb,ryn,bJ c (aP V (3*A+2) v1) lb,dz,Option.isSome_some,Option.getD_some]
   refine aJ (b:=e.b) (rows:=(aP W (3*A+2) (W (3*A+2)++[[.int .i64 (R.length:Int)]])) (3*B+2)) (new:=[[.int .i64 ((R.length:Int))]]) (hO.fr (by simp;omega) (fun i' hi'=>?_)) (by simp[sx,sy]) (by simp;omega) (by rw[hI1D.n B lb];simp[aZ];omega) fun v2 ga hv2 n1 f1 vid1 lg1=>?_
   ·have:=(hO.lt hi').2
    simp[H.get_put];omega
   simp only[sx,sy] at n1 f1 vid1 lg1
   have hP:=hI1.grow (g':=ga) (k:=3*B+2) (rows':=(aP W (3*A+2) (W (3*A+2)++[[.int .i64 (R.length:Int)]])) (3*B+2)++[[.int .i64 ((R.length:Int))]]) he (by omega) hv2 (by omega) (fun i' hi' hne=>by rw[f1 i' (by omega) hne,if_neg (by omega)]) (by rcases vid1 with h | ⟨i',h,hi'⟩;exact .inl h;exact .inr ⟨i',h,by omega⟩)
   have hNr2:=hP.hN.rows
   have hrf2:=dJ hP.hN he.vn
   simp only[sx,sy,sf,SO.run,↓reduceIte,Nat.reduceEqDiff,hNr2,bS,lb,ryn,Option.isSome_some,Option.getD_some]
   refine bp (row:=dz c (aP V (3*A+2) v1) B) (row':=dz c (aP (aP V (3*A+2) v1) (3*B+2) v2) B) (hP.same he (by simp) (by simp;omega)).hN (bJ _ _ lb) (by rw[hv2.cell.1];rfl) hv2.cell.2 ?_ fun g2 x2 n2 f2=>?_
   ·simp only[dz,hv2.cell.1,d7,sy,↓reduceIte,Nat.reduceAdd,Nat.reduceLeDiff,aB,ay (aP V (3*A+2) v1) (k:=3*B+2) (j:=3*B+1) _ (by omega),ay (aP V (3*A+2) v1) (k:=3*B+2) (j:=3*B+3) _ (by omega)]
   rw[gS rfl (fun i' hi'=>vC (by omega) hi')] at x2
   simp only[sy] at n2 f2
   have hI2:=hP.node (g':=g2) he x2 (ay _ _ (by omega)) (by omega) f2
   have hI2D:=hI1D.setN B ((aP N A (N A++[(R.length:Int)])) B++[(R.length:Int)])
   rw[List.map_append,<-hI1D.n B lb] at hI2D
   simp only[List.map_cons,List.map_nil,ci] at hI2D
   simp only[sx,sy,sf,SO.run,↓reduceIte,Nat.reduceEqDiff,h4]
   refine ⟨?_,?_⟩
   ·simp only[List.reverse_cons,List.reverse_nil,List.nil_append,List.cons_append,hrf]
    refine aX [false,false,false,false,false,false,false,false,false,false,false,false,true,true,false,false,true] [(0,12),(1,12),(2,12),(3,12),(4,12),(5,12),(6,12),(7,12),(8,12),(0,13),(1,13),(2,13)] (by simp[All2,au,aF]) (by decide) ?_
    rintro p hp x y hx hy
    simp only[List.mem_cons,List.not_mem_nil,or_false] at hp
    rcases hp with rfl | rfl | rfl | rfl | rfl | rfl | rfl | rfl | rfl | rfl | rfl | rfl<;>(simp at hx hy;subst hx;subst hy;refine dG rfl rfl rfl rfl ?_ ?_ ?_<;>simp[au,aF,bQ,hrf,bM ryn]<;>first | omega | (intro i' hi';rcases lg1 i' hi' with h | h<;>first | omega | simp at h) | skip)
   clear hNr hrf hbb hO hP hNr2 hrf2 x2 f2 n2 f1 n1 vid1 lg1 hlb
   clear l0
   obtain ⟨cc,cc0,cc1,h7'⟩:=hI2.h7
   have hNr:=hI2.hN.rows
   have hrf:=dJ hI2.hN he.vn
   simp only[sx,sy,sf,SO.run,↓reduceIte,Nat.reduceEqDiff,h4,h7,hI2.h4]
   refine DQ (us:=e.us) (p:=e.p7) (l:=e.e7) (c:=cc) ?_ he.l7 cc0 (by omega) fun z c' g4 z0 z1 c0 c1 g7 n4 f4 lg4=>?_
   ·simpa using h7'
   simp only[sy] at n4 f4 lg4
   have lg4':∀i∈g4.lg,i=e.p7:=by simpa using lg4
   have hb3:=hI2.nx
   have hI4:MI e g4 (aP (aP V (3*A+2) v1) (3*B+2) v2) (aP (aP W (3*A+2) (W (3*A+2)++[[.int .i64 (R.length:Int)]])) (3*B+2) ((aP W (3*A+2) (W (3*A+2)++[[.int .i64 (R.length:Int)]])) (3*B+2)++[[.int .i64 (R.length:Int)]])) c ow (R.length+1):=hI2.num he c0 (by omega) g7 (by omega) f4
   simp only[sx,sy,SO.run,↓reduceIte,Nat.reduceEqDiff]
   refine a_ (xn hd hg1.1 hg1.2 z0 z1) fun r hr=>?_
   simp only[sx,sy,sf,SO.run,↓reduceIte]
   rw[sF 1 [.nils] r _ (by rw[hr.cells];rfl) hr.tup,hr.cells]
   simp only[sx,sy,sf,SO.run,↓reduceIte,Nat.reduceEqDiff]
   have hO:=hI4.fam.1 0 (by omega)
   refine aJ (b:=e.b) (new:=[[r]]) (rows:=(aP (aP W (3*A+2) (W (3*A+2)++[[.int .i64 (R.length:Int)]])) (3*B+2) ((aP W (3*A+2) (W (3*A+2)++[[.int .i64 (R.length:Int)]])) (3*B+2)++[[.int .i64 (R.length:Int)]])) 0) (hO.fr (by simp;omega) (fun i hi=>?_)) (by simp[sx,sy]) (by simp;have:=hI4.nx;omega) (by rw[hI2D.len];simp[aZ];omega) fun v' g5 hv' n5 f5 vid5 lg5=>?_
   ·have:=(hO.lt hi).2
    simp[H.get_put];omega
   simp only[sx,sy] at n5 f5 vid5 lg5
   have hI5:MP e g5 (aP (aP V (3*A+2) v1) (3*B+2) v2) (aP (aP (aP V (3*A+2) v1) (3*B+2) v2) 0 v') (aP (aP (aP W (3*A+2) (W (3*A+2)++[[.int .i64 (R.length:Int)]])) (3*B+2) ((aP W (3*A+2) (W (3*A+2)++[[.int .i64 (R.length:Int)]])) (3*B+2)++[[.int .i64 (R.length:Int)]])) 0 ((aP (aP W (3*A+2) (W (3*A+2)++[[.int .i64 (R.length:Int)]])) (3*B+2) ((aP W (3*A+2) (W (3*A+2)++[[.int .i64 (R.length:Int)]])) (3*B+2)++[[.int .i64 (R.length:Int)]])) 0++[[r]])) c ow (R.length+1) :=
    hI4.grow he (by omega) hv' (by omega) (fun i hi hne=>by rw[f5 i (by omega) hne,if_neg (by omega)]) (by rcases vid5 with h | ⟨i,h,hi⟩;exact .inl h;exact .inr ⟨i,h,by omega⟩)
   simp only[sx,sy,sf,SO.run,↓reduceIte,Nat.reduceEqDiff,Nat.reduceAdd,Nat.reduceLeDiff,h4,hI5.h4,hv'.cell.1,hv'.cell.2,fG,jP]
   refine ⟨?_,?_⟩
   ·simp only[List.reverse_cons,List.reverse_nil,List.nil_append,List.cons_append]
    refine aX [false,false,false,false,false,true,false,true,true,false,true] [(0,5),(1,5),(2,5),(3,5),(0,7),(1,7)] (by simp[All2,au,aF,bw]) (by decide) ?_
    rintro p hp x y hx hy
    simp only[List.mem_cons,List.not_mem_nil,or_false] at hp
    rcases hp with rfl | rfl | rfl | rfl | rfl | rfl
    all_goals first
     | (simp at hx hy;subst hx;subst hy;refine dG rfl rfl rfl rfl ?_ ?_ ?_<;>simp[au,aF,ap]<;>omega)
     | (simp at hx hy;subst hx;subst hy;refine dG rfl rfl rfl rfl ?_ ?_ ?_<;>simp[au,aF,ap])
     | (simp at hx hy;subst hx;subst hy;refine wP rfl rfl rfl ?_;intro i hi j hj;(have hi:=lg4' i hi);simp[au,aF,bQ] at hj<;>omega)
   have hI3:=hI5.root (g':=(aI (dj (aI (dj g5 []) []) []) []).put e.p4 (.cells 3 [[.int .i64 e.gr,v',e.nv]] 0 false false)) he
    (by simp[H.get_put]) (by simp;omega) (fun i hi=>by simp[H.get_put];intro e;exact absurd e hi)
   have hI3D:=hI2D.setR (x:=S.a_ e.gr (2) z) (cs:=[r]) hr
   have hF6:=hF.both (q:=2) (.inl rfl) z0 z1 (N':=aP (aP N A (N A++[(R.length:Int)])) B ((aP N A (N A++[(R.length:Int)])) B++[(R.length:Int)])) fun i hi=>by
    by_cases e1:i=B
    ·subst e1;rw[aB,ay _ _ (Ne.symm hAB)];exact .inr (.inr rfl)
    ·rw[ay _ _ e1]
     by_cases e2:i=A
     ·subst e2;rw[aB];exact .inr (.inr rfl)
     ·exact .inl (ay _ _ e2)
   simp only[sx,sy,↓reduceIte,Nat.reduceEqDiff,h1,h2,h3,h4,h5,h6,h7,h9,h11,MSt,St]
   refine ⟨aP (aP (aP V (3*A+2) v1) (3*B+2) v2) 0 v',aP (aP (aP W (3*A+2) (W (3*A+2)++[[.int .i64 (R.length:Int)]])) (3*B+2) ((aP W (3*A+2) (W (3*A+2)++[[.int .i64 (R.length:Int)]])) (3*B+2)++[[.int .i64 (R.length:Int)]])) 0 ((aP (aP W (3*A+2) (W (3*A+2)++[[.int .i64 (R.length:Int)]])) (3*B+2) ((aP W (3*A+2) (W (3*A+2)++[[.int .i64 (R.length:Int)]])) (3*B+2)++[[.int .i64 (R.length:Int)]])) 0++[[r]]),R++[S.a_ e.gr 2 z],aP (aP N A (N A++[(R.length:Int)])) B ((aP N A (N A++[(R.length:Int)])) B++[(R.length:Int)]),?_,hI3D,hF6,fun i hi h=>?_,by simp;omega,fun i=>?_⟩
   ·rw[List.length_append];exact hI3.same he (by simp) (by simp)
   ·have:=hon i hi h
    unfold aP
    split
    ·simp
    ·split
     ·simp
     ·exact this
   ·have:=hN1 i
    have:=hN1 A
    have:=hN1 B
    by_cases e1:i=B
    ·subst e1;rw[aB,ay _ _ (Ne.symm hAB)];simp;omega
    ·rw[ay _ _ e1]
     by_cases e2:i=A
     ·subst e2;rw[aB];simp;omega
     ·rw[ay _ _ e2];omega
  ·simp only[sx,sy,↓reduceIte,Nat.reduceEqDiff,h1,h2,h3,h4,h5,h6,h7,h9,h11,MSt,St]
   exact ⟨V,W,R,N,hI,hD,hF,hon,by omega,fun i=>by have:=hN1 i;omega⟩
 ·rintro t df g ⟨rfl,ht,V,W,R,N,hI,hD,hF,hon,hRj,hN1⟩
  exact fin t g V W R N ht hI hD hF hon (by omega) (fun i=>by have:=hN1 i;omega)
end
end Hx
end
section
namespace Hx
open Go
noncomputable section
theorem Iz (m n:Nat):∃z:Nat,cO .shr (.int .u8 (m:Int)) (.int .u64 (n:Int))=.val (.int .u8 (z:Int)) :=
 ⟨m / 2 ^ (Nat.min n 8),rfl⟩
theorem HL (m n:Nat):∃z:Int,cO .and (.int .u8 (m:Int)) (.int .u8 (n:Int))=.val (.int .u8 z):=by
 have:∃z:Int,Op.intBits .and .u8 (.ofNat m) (.ofNat n)=.pure (.int .u8 z):=⟨_,rfl⟩
 obtain ⟨z,hz⟩:=this
 refine ⟨z,?_⟩
 show orV (mj (Op.intBits .and .u8 (.ofNat m) (.ofNat n)))=_
 rw[hz];rfl
structure MN (e:ME) (r6:AV) (pl:List Int) (num:Nat->Nat):Prop where
 r:IT 0 pl r6
 at_:∀k,k<e.n->pl[k]?=some (num k:Int)
 lt:∀k,k<e.n->num k<e.n
 inj:∀i j,i<e.n->j<e.n->num i=num j->i=j
 sur:∀u,u<e.n->∃k,k<e.n/\num k=u
theorem DF {α:Type}{f:Nat->α}{k:Nat}{x:α}(h:f k=x):aP f k x=f:=by
 funext j;by_cases e:j=k
 ·subst e;rw[aB,h]
 ·exact ay _ _ e
theorem zb {α:Type}{f:Nat->α}{k:Nat}{x y:α}:aP (aP f k x) k y=aP f k y:=by
 funext j;by_cases e:j=k
 ·subst e;rw[aB,aB]
 ·rw[ay _ _ e,ay _ _ e,ay _ _ e]
def qP (e:ME)(r6:AV)(i v:Nat)(t:T):Prop :=
 St t [(1,.hptr 0 0 0 0),(2,.hptr 1 0 0 0),(3,.int .i64 (e.n:Int)),(4,.hptr e.p4 0 0 0),(5,e.w5),(6,r6),(7,.hptr e.p7 0 0 0),(9,e.w9),(14,.int .i64 (i:Int)),(15,.int .i64 (v:Int))]
theorem Lh {d:Nat}{e:ME}{r6:AV}{pl:List Int}{num:Nat->Nat}{i v u cap:Nat}{Q:QT}(hd:0<d)(he:e.Ok)(hpr:MPr e)(hp:MN e r6 pl num)(hi:i<e.n)(hv:v<e.n)(hu:u<e.n)
  {t:T} {g:G} {V:Nat->AV} {W:Nat->List (List AV)} {c:Nat->Int} {ow:List Bool} {R:List (List Int)} {F N O:Nat->List Int} {l:List Int} (ht:qP e r6 i v t) (h16:tat t 16=.int .i64 (u:Int)) (h17:tat t 17=.int .i64 0)
  (hI:MI e g V W c ow cap) (hD:MD e W R (aP F v l) N O) (hll:l.length<=4)
  (fin:∀t g V W l',qP e r6 i v t->tat t 16=.int .i64 (u:Int)->MI e g V W c ow cap->MD e W R (aP F v l') N O->(l'=l\/(l'=l++[(u:Int)]/\∃k,k<i/\num k=u))->Q (.exit 10) t [] g) :
  wpL (wp C0 d none dt) Q t [] g:=by
 have hoo:=he.ord
 have hn1:=he.n1
 have ryn:=eZ he.vn
 have ry5:=eZ he.v5
 have hpr6:=hp.r.rows
 simp only[dt,gD]
 refine bB i (by omega) (fun k t df g=>df=[]/\qP e r6 i v t/\tat t 16=.int .i64 (u:Int)/\∃V W l',MI e g V W c ow cap/\MD e W R (aP F v l') N O/\(l'=l\/(l'=l++[(u:Int)]/\∃k',k'<k/\num k'=u)))
  ⟨rfl,ht,h16,V,W,l,hI,hD,.inl rfl⟩ h17 (by decide) (by rintro j t df g v s (rfl | rfl | rfl)<;>simp[qP,St,sx]) ?_ ?_ ?_
 ·rintro j t df g hj ⟨rfl,⟨h1,h2,h3,h4,h5,h6,h7,h9,h14,h15,-⟩,h16,hx⟩ h17
  simp only[sx,sy,SO.run,↓reduceIte,Nat.reduceEqDiff,h1,h2,h3,h4,h5,h6,h7,h9,h14,h15,h16,h17,qP,St]
  exact hx
 ·clear ht h16 h17 hI hD
  rintro j t df g hj ⟨rfl,⟨h1,h2,h3,h4,h5,h6,h7,h9,h14,h15,-⟩,h16,V,W,l',hI,hD,hl'⟩ h17
  obtain ⟨y,oa,hy,hoa⟩:=hpr.2 i hi
  have hip:i<e.prow.length:=by rw[hpr.1];exact hi
  have hjl:j<pl.length:=(List.getElem?_eq_some_iff.1 (hp.at_ j (by omega))).1
  have hnj:=hp.at_ j (by omega)
  simp only[sx,SO.run,↓reduceIte,Nat.reduceEqDiff,h6,h16,h17,hpr6,hjl,hnj,List.length_map,List.getElem?_map,Option.map_some,ci,Option.isSome_some,Option.getD_some]
  by_cases hq:num j=u
  ·have hq1:decide (((num j:Nat):Int)=(u:Int))=true:=by simp[hq]
   obtain ⟨z1,e1⟩:=Iz y.2.1.toNat j
   obtain ⟨z2,e2⟩:=HL z1 1
   have e2:cO .and (.int .u8 (z1:Int)) (.int .u8 1)=.val (.int .u8 z2):=e2
   simp only[sx,sy,SO.run,↓reduceIte,Nat.reduceEqDiff,h5,h14,h17,hq1,hI.h5.rows,hip,hy,ry5,Option.isSome_some,Option.getD_some,u8v,nE (show 0<=(j:Int) by omega) (show (j:Int)<18446744073709551616 by omega),e1,e2]
   refine aw (fun hb=>?_) (fun hb=>?_)
   ·have hl2:l'=l:=by
     rcases hl' with h | ⟨h,k',hk',hk2⟩
     ·exact h
     ·have:=hp.inj k' j (by omega) (by omega) (by omega);omega
    rw[hl2] at hD
    have hlF:(aP F v l v).length<=100:=by rw[aB];omega
    have hNr:=hI.hN.rows
    have hrf:=dJ hI.hN he.vn
    have hbb:=hI.nx
    have hlb:=hlF
    have hO:=hI.fam.1 (3*v+1) (by omega)
    simp only[sx,sy,sf,SO.run,↓reduceIte,Nat.reduceEqDiff,h4,h15,h16,hI.h4,hNr,bS,hv,ryn,bJ c (V) hv,dz,Option.isSome_some,Option.getD_some]
    refine aJ (b:=e.b) (rows:=(W) (3*v+1)) (new:=[[.int .i64 ((u:Int))]]) (hO.fr (by simp;omega) (fun i' hi'=>?_)) (by simp[sx,sy]) (by simp;omega) (by rw[hD.f v hv];simp[aZ];omega) fun v1 ga hv1 n1 f1 vid1 lg1=>?_
    ·have:=(hO.lt hi').2
     simp[H.get_put];omega
    simp only[sx,sy] at n1 f1 vid1 lg1
    have hP:=hI.grow (g':=ga) (k:=3*v+1) (rows':=(W) (3*v+1)++[[.int .i64 ((u:Int))]]) he (by omega) hv1 (by omega) (fun i' hi' hne=>by rw[f1 i' (by omega) hne,if_neg (by omega)]) (by rcases vid1 with h | ⟨i',h,hi'⟩;exact .inl h;exact .inr ⟨i',h,by omega⟩)
    have hNr2:=hP.hN.rows
    have hrf2:=dJ hP.hN he.vn
    simp only[sx,sy,sf,SO.run,↓reduceIte,Nat.reduceEqDiff,hNr2,bS,hv,ryn,Option.isSome_some,Option.getD_some]
    refine bp (row:=dz c (V) v) (row':=dz c (aP (V) (3*v+1) v1) v) (hP.same he (by simp) (by simp;omega)).hN (bJ _ _ hv) (by rw[hv1.cell.1];rfl) hv1.cell.2 ?_ fun g1 x2 n2 f2=>?_
    ·simp only[dz,hv1.cell.1,d7,sy,↓reduceIte,Nat.reduceAdd,Nat.reduceLeDiff,aB,ay (V) (k:=3*v+1) (j:=3*v+2) _ (by omega),ay (V) (k:=3*v+1) (j:=3*v+3) _ (by omega)]
    rw[gS rfl (fun i' hi'=>vC (by omega) hi')] at x2
    simp only[sy] at n2 f2
    have hI1:=hP.node (g':=g1) he x2 (ay _ _ (by omega)) (by omega) f2
    have hI1D:=hD.setF v (((aP F v l)) v++[(u:Int)])
    rw[List.map_append,<-hD.f v hv] at hI1D
    simp only[List.map_cons,List.map_nil,ci] at hI1D
    simp only[sx,sy,↓reduceIte,Nat.reduceEqDiff,h16]
    refine ⟨?_,?_⟩
    ·simp only[List.reverse_cons,List.reverse_nil,List.nil_append,List.cons_append,hrf]
     refine aX [false,false,false,false,false,false,false,false,false,false,true,true,false,false,true] [(0,10),(1,10),(2,10),(3,10),(4,10),(5,10),(6,10),(7,10),(8,10),(0,11),(1,11),(2,11)] (by simp[All2,au,aF]) (by decide) ?_
     rintro p hp x y hx hy
     simp only[List.mem_cons,List.not_mem_nil,or_false] at hp
     rcases hp with rfl | rfl | rfl | rfl | rfl | rfl | rfl | rfl | rfl | rfl | rfl | rfl<;>(simp at hx hy;subst hx;subst hy;refine dG rfl rfl rfl rfl ?_ ?_ ?_<;>simp[au,aF,bQ,hrf,bM ryn]<;>first | omega | (intro i' hi';rcases lg1 i' hi' with h | h<;>first | omega | simp at h) | skip)
    clear hNr hrf hbb hO hP hNr2 hrf2 x2 f2 n2 f1 n1 vid1 lg1 hlb
    rw[zb,aB] at hI1D
    simp only[sx,sy,↓reduceIte,Nat.reduceEqDiff,h1,h2,h3,h4,h5,h6,h7,h9,h14,h15,h17,qP,St]
    exact ⟨_,_,l++[(u:Int)],hI1.same he (by simp) (by simp),hI1D,.inr ⟨rfl,j,by omega,hq⟩⟩
   ·simp only[sx,sy,↓reduceIte,Nat.reduceEqDiff,h1,h2,h3,h4,h5,h6,h7,h9,h14,h15,h16,h17,qP,St]
    refine ⟨V,W,l',hI,hD,?_⟩
    rcases hl' with h | ⟨h,k',hk',hk2⟩
    ·exact .inl h
    ·exact .inr ⟨h,k',by omega,hk2⟩
  ·have hq1:decide (((num j:Nat):Int)=(u:Int))=false:=by simp;omega
   simp only[sx,sy,SO.run,↓reduceIte,Nat.reduceEqDiff,h1,h2,h3,h4,h5,h6,h7,h9,h14,h15,h16,h17,hq1,qP,St]
   refine ⟨V,W,l',hI,hD,?_⟩
   rcases hl' with h | ⟨h,k',hk',hk2⟩
   ·exact .inl h
   ·exact .inr ⟨h,k',by omega,hk2⟩
 ·rintro t df g ⟨rfl,ht,h16,V,W,l',hI,hD,hl'⟩
  exact fin t g V W l' ht h16 hI hD hl'
theorem Lg {d:Nat}{e:ME}{r6:AV}{pl:List Int}{num:Nat->Nat}{i v cap:Nat}{Q:QT}(hd:0<d)(he:e.Ok)(hpr:MPr e)(hp:MN e r6 pl num)(hi:i<e.n)(hv:v<e.n)
  {t:T} {g:G} {V:Nat->AV} {W:Nat->List (List AV)} {c:Nat->Int} {ow:List Bool} {R:List (List Int)} {F N O:Nat->List Int} (ht:qP e r6 i v t) (h16:tat t 16=.int .i64 0)
  (hI:MI e g V W c ow cap) (hD:MD e W R F N O) (hFv:F v=[])
  (fin:∀t g V W l,qP e r6 i v t->MI e g V W c ow cap->MD e W R (aP F v l) N O->S.aq l e.n=true->(∀x∈l,∃k,k<i/\x=(num k:Int))->l.length<=4->Q (.exit 8) t [] g) :
  wpL (wp C0 d none dl) Q t [] g:=by
 have hoo:=he.ord
 have hn1:=he.n1
 simp only[dl,fV]
 refine bB e.n (by omega) (fun u t df g=>df=[]/\qP e r6 i v t/\∃V W l,MI e g V W c ow cap/\MD e W R (aP F v l) N O/\S.aq l e.n=true/\(∀x∈l,x<(u:Int))/\(∀x∈l,∃k,k<i/\x=(num k:Int))/\l.length<=u)
  ⟨rfl,ht,V,W,[],hI,by rw[DF hFv];exact hD,rfl,by simp,by simp,Nat.le_refl _⟩ h16 (by decide) (by rintro j t df g v s (rfl | rfl | rfl)<;>simp[qP,St,sx]) ?_ ?_ ?_
 ·rintro j t df g hj ⟨rfl,⟨h1,h2,h3,h4,h5,h6,h7,h9,h14,h15,-⟩,hx⟩ h16
  simp only[sx,sy,SO.run,↓reduceIte,Nat.reduceEqDiff,h1,h2,h3,h4,h5,h6,h7,h9,h14,h15,h16,qP,St]
  exact hx
 ·clear ht h16 hI hD
  rintro j t df g hj ⟨rfl,ht,V,W,l,hI,hD,hl1,hl2,hl3,hl4⟩ h16
  simp only[sx,SO.run]
  refine Lh hd he hpr hp hi hv hj (by obtain ⟨h1,h2,h3,h4,h5,h6,h7,h9,h14,h15,-⟩:=ht;simp[qP,St,sx,h1,h2,h3,h4,h5,h6,h7,h9,h14,h15]) (by simp[sx,h16]) (by simp[sx]) hI hD (by omega) fun t g V W l' ht h16 hI hD hl'=>?_
  simp only[sx,sy,↓reduceIte]
  refine ⟨⟨ht,V,W,l',hI,hD,?_⟩,h16⟩
  rcases hl' with rfl | ⟨rfl,k,hk,hk2⟩
  ·exact ⟨hl1,fun x hx=>by have:=hl2 x hx;omega,hl3,by omega⟩
  ·refine ⟨oG hl1 hl2 (by omega) (by omega) (Int.le_refl _),fun x hx=>?_,fun x hx=>?_,by simp;omega⟩
   ·rcases List.mem_append.1 hx with h | h
    ·have:=hl2 x h;omega
    ·simp at h;omega
   ·rcases List.mem_append.1 hx with h | h
    ·exact hl3 x h
    ·simp at h;exact ⟨k,hk,by omega⟩
 ·rintro t df g ⟨rfl,ht,V,W,l,hI,hD,hl1,hl2,hl3,hl4⟩
  exact fin t g V W l ht hI hD hl1 hl3 (by omega)
end
end Hx
end
section
namespace Hx
open Go
noncomputable section
theorem pG {α β γ:Type}{R:β->γ->Prop}{f:α->β}{h:α->γ}:∀{l:List α},(∀x∈l,R (f x) (h x))->All2 R (l.map f) (l.map h)
 | [],_=>trivial
 | a::l,hl=>⟨hl a (by simp),pG fun x hx=>hl x (by simp[hx])⟩
def mkM (e:ME)(c:Nat->Int)(R:List (List Int))(F N O:Nat->List Int):Causal:=⟨e.gr,R,(List.range e.n).map fun i=>⟨c i,F i,N i,O i⟩⟩
theorem D2 {e:ME}{c:Nat->Int}{R:List (List Int)}{F N O:Nat->List Int}{i:Nat}(h:i<e.n):(mkM e c R F N O).nodes[i]?=some ⟨c i,F i,N i,O i⟩:=by simp[mkM,h]
theorem MI.agg {e:ME}{g:G}{V:Nat->AV}{W:Nat->List (List AV)}{c:Nat->Int}{ow:List Bool}{cap:Nat}{R:List (List Int)}{F N O:Nat->List Int}(h:MI e g V W c ow cap)(he:e.Ok)(hD:MD e W R F N O)
  (hR:R.length<=1000) (hl:∀i,i<e.n->(F i).length<=1000000000/\(N i).length<=1000000000/\(O i).length<=1000000000):Agg (mkM e c R F N O) (fun i=>1<i) 0 g.h (.agg [.int .i64 e.gr,V 0,e.nv]):=by
 have hn:=he.n1
 have hoo:=he.ord
 refine ⟨_,rfl,aC.2 ⟨V 0,e.nv,rfl,?_,?_⟩⟩
 ·exact Own.sl (α:=List Int) (h.fam.1 0 (by omega)) (by show R.length<_;omega) (hD.r.mono fun a b r=>Rp.tree r (Nat.le_refl _)) fun i hi=>by have:=((h.fam.1 0 (by omega)).lt hi).1;omega
 ·refine Own.sl (α:=Mech) h.hN (by simp[mkM];omega) ?_ fun i hi=>by have:=bO he.vn hi;omega
  refine pG fun i hi=>?_
  have hi:i<e.n:=List.mem_range.1 hi
  obtain ⟨l1,l2,l3⟩:=hl i hi
  refine bW.2 ⟨_,_,_,rfl,?_,?_,?_⟩
  ·have:=h.fam.1 (3*i+1) (by omega)
   rw[hD.f i hi] at this
   exact Own.sl (α:=Int) this (by show (F i).length<_;omega) (All2.of_map (fun a=>aS.2 rfl) _) fun i hi=>by have:=(this.lt hi).1;omega
  ·have:=h.fam.1 (3*i+2) (by omega)
   rw[hD.n i hi] at this
   exact Own.sl (α:=Int) this (by show (N i).length<_;omega) (All2.of_map (fun a=>aS.2 rfl) _) fun i hi=>by have:=(this.lt hi).1;omega
  ·have:=h.fam.1 (3*i+3) (by omega)
   rw[hD.o i hi] at this
   exact Own.sl (α:=Int) this (by show (O i).length<_;omega) (All2.of_map (fun a=>aS.2 rfl) _) fun i hi=>by have:=(this.lt hi).1;omega
def fU (e:ME)(r6 r18:AV)(i v:Nat)(t:T):Prop :=
 St t [(1,.hptr 0 0 0 0),(2,.hptr 1 0 0 0),(3,.int .i64 (e.n:Int)),(4,.hptr e.p4 0 0 0),(5,e.w5),(6,r6),(7,.hptr e.p7 0 0 0),(9,e.w9),(14,.int .i64 (i:Int)),(15,.int .i64 (v:Int)),(18,r18)]
theorem KW {d:Nat}{e:ME}{r6 r18 xr:AV}{i v cc:Nat}{fst:Int}{x:List Int}{lrows:List (List AV)}{Q:QT}(hd:0<d)(hr:∀h',ah h' 1 r18=some lrows)(hc:lrows[cc]?=some [xr])(hx:IT 0 x xr)(hx6:x.length<=12)(hxv:∀y∈x,0<=y/\y<4)
  {t:T} {g:G} {B:Int} (ht:fU e r6 r18 i v t) (h19:tat t 19=.int .i64 (cc:Int)) (h20:tat t 20=.int .i64 B) (h21:tat t 21=.int .i64 fst) (h22:tat t 22=.int .i64 0) (h23:tat t 23=.int .i64 0)
  (fin:∀t key,fU e r6 r18 i v t->tat t 19=.int .i64 (cc:Int)->tat t 20=.int .i64 B->tat t 21=.int .i64 fst->tat t 22=.int .i64 key->0<=key->key<4 ^ 12->Q (.exit 14) t [] g) :
  wpL (wp C0 d none cW) Q t [] g:=by
 have hcl:cc<lrows.length:=(List.getElem?_eq_some_iff.1 hc).1
 simp only[cW,gB]
 refine bB x.length (by omega) (fun k t df g'=>df=[]/\g'=g/\fU e r6 r18 i v t/\tat t 19=.int .i64 (cc:Int)/\tat t 20=.int .i64 B/\tat t 21=.int .i64 fst/\∃key,tat t 22=.int .i64 key/\0<=key/\key<4 ^ k)
  ⟨rfl,rfl,ht,h19,h20,h21,0,h22,by decide,by decide⟩ h23 (by decide) (by rintro j t df g v s (rfl | rfl | rfl)<;>simp[fU,St,sx]) ?_ ?_ ?_
 ·rintro j t df g' hj ⟨rfl,rfl,⟨h1,h2,h3,h4,h5,h6,h7,h9,h14,h15,h18,-⟩,h19,h20,h21,hx2⟩ h23
  simp only[sx,sy,SO.run,↓reduceIte,Nat.reduceEqDiff,h1,h2,h3,h4,h5,h6,h7,h9,h14,h15,h18,h19,h20,h21,h23,hr,hcl,hc,hx.len,Option.isSome_some,Option.getD_some,fU,St]
  exact hx2
 ·rintro j t df g' hj ⟨rfl,rfl,⟨h1,h2,h3,h4,h5,h6,h7,h9,h14,h15,h18,-⟩,h19,h20,h21,key,h22,k0,k1⟩ h23
  obtain ⟨y,hy,-,hm⟩:=af hj
  obtain ⟨y0,y1⟩:=hxv y hm
  have hp:(4:Int) ^ j<=4 ^ 12:=ch (by omega)
  have hp2:(4:Int) ^ 12=16777216:=by decide
  have hp3:(4:Int) ^ (j+1)=4 ^ j*4:=Int.pow_succ ..
  have xr:=hx.rows
  simp only[sx,SO.run,↓reduceIte,Nat.reduceEqDiff,h21,h23]
  refine aw (fun hb=>?_) (fun hb=>?_)
  ·simp only[sx,sy,SO.run,↓reduceIte,Nat.reduceEqDiff,h1,h2,h3,h4,h5,h6,h7,h9,h14,h15,h18,h19,h20,h21,h22,h23,hr,hcl,hc,xr,hj,hy,ci,List.length_map,List.getElem?_map,Option.map_some,Option.isSome_some,Option.getD_some,fU,St,
    an (show -9223372036854775808<=3*key by omega) (show 3*key<9223372036854775808 by omega),an (show -9223372036854775808<=3*key+y by omega) (show 3*key+y<9223372036854775808 by omega)]
   exact ⟨_,rfl,by omega,by omega⟩
  ·simp only[sx,sy,↓reduceIte,Nat.reduceEqDiff,h1,h2,h3,h4,h5,h6,h7,h9,h14,h15,h18,h19,h20,h21,h22,h23,fU,St]
   exact ⟨key,rfl,k0,by omega⟩
 ·rintro t df g' ⟨rfl,rfl,ht,h19,h20,h21,key,h22,k0,k1⟩
  have hp:(4:Int) ^ x.length<=4 ^ 12:=ch (by omega)
  exact fin t key ht h19 h20 h21 h22 k0 (by omega)
theorem K5 {d:Nat}{e:ME}{r6 r18:AV}{i v cc cap:Nat}{Q:QT}(he:e.Ok)(hv:v<e.n)
  {t:T} {g:G} {V:Nat->AV} {W:Nat->List (List AV)} {c:Nat->Int} {ow:List Bool} {R:List (List Int)} {F N O:Nat->List Int} {l:List Int} {B:Int} (ht:fU e r6 r18 i v t) (h19:tat t 19=.int .i64 (cc:Int)) (h20:tat t 20=.int .i64 B)
  (hB0:0<=B) (hcv:c v=2\/c v=3) (hI:MI e g V W c ow cap) (hD:MD e W R F N (aP O v l)) (hlO:l.length<=1000000)
  (fin:∀t g V W,fU e r6 r18 i v t->tat t 19=.int .i64 (cc:Int)->MI e g V W c ow cap->MD e W R F N (aP O v (l++[B % c v]))->Q .norm t [] g) :
  wp C0 d none bG Q t [] g:=by
 have hoo:=he.ord
 have hn1:=he.n1
 have ryn:=eZ he.vn
 have hrem:=bC .i64 hB0 (show 0<c v by omega)
 have hlO:(aP O v l v).length<=1000000:=by rw[aB];exact hlO
 obtain ⟨h1,h2,h3,h4,h5,h6,h7,h9,h14,h15,h18,-⟩:=ht
 simp only[bG]
 have hNr:=hI.hN.rows
 have hrf:=dJ hI.hN he.vn
 have hbb:=hI.nx
 have hlb:=hlO
 have hO:=hI.fam.1 (3*v+3) (by omega)
 simp only[sx,sy,sf,SO.run,↓reduceIte,Nat.reduceEqDiff,h4,h15,h20,hrem,hI.h4,hNr,bS,hv,ryn,bJ c (V) hv,dz,Option.isSome_some,Option.getD_some]
 refine aJ (b:=e.b) (rows:=(W) (3*v+3)) (new:=[[.int .i64 (B % c v)]]) (hO.fr (by simp;omega) (fun i' hi'=>?_)) (by simp[sx,sy]) (by simp;omega) (by rw[hD.o v hv];simp[aZ];omega) fun v1 ga hv1 n1 f1 vid1 lg1=>?_
 ·have:=(hO.lt hi').2
  simp[H.get_put];omega
 simp only[sx,sy] at n1 f1 vid1 lg1
 have hP:=hI.grow (g':=ga) (k:=3*v+3) (rows':=(W) (3*v+3)++[[.int .i64 (B % c v)]]) he (by omega) hv1 (by omega) (fun i' hi' hne=>by rw[f1 i' (by omega) hne,if_neg (by omega)]) (by rcases vid1 with h | ⟨i',h,hi'⟩;exact .inl h;exact .inr ⟨i',h,by omega⟩)
 have hNr2:=hP.hN.rows
 have hrf2:=dJ hP.hN he.vn
 simp only[sx,sy,sf,SO.run,↓reduceIte,Nat.reduceEqDiff,hNr2,bS,hv,ryn,Option.isSome_some,Option.getD_some]
 refine bp (row:=dz c (V) v) (row':=dz c (aP (V) (3*v+3) v1) v) (hP.same he (by simp) (by simp;omega)).hN (bJ _ _ hv) (by rw[hv1.cell.1];rfl) hv1.cell.2 ?_ fun g1 x2 n2 f2=>?_
 ·simp only[dz,hv1.cell.1,d7,sy,↓reduceIte,Nat.reduceAdd,Nat.reduceLeDiff,aB,ay (V) (k:=3*v+3) (j:=3*v+1) _ (by omega),ay (V) (k:=3*v+3) (j:=3*v+2) _ (by omega)]
 rw[gS rfl (fun i' hi'=>vC (by omega) hi')] at x2
 simp only[sy] at n2 f2
 have hI1:=hP.node (g':=g1) he x2 (ay _ _ (by omega)) (by omega) f2
 have hI1D:=hD.setO v (((aP O v l)) v++[B % c v])
 rw[List.map_append,<-hD.o v hv] at hI1D
 simp only[List.map_cons,List.map_nil,ci] at hI1D
 simp only[sy]
 refine ⟨?_,?_⟩
 ·simp only[List.reverse_cons,List.reverse_nil,List.nil_append,List.cons_append,hrf]
  refine aX [false,false,false,false,false,false,false,false,false,false,false,false,false,false,false,false,false,true,true,false,false,true] [(0,17),(1,17),(2,17),(3,17),(4,17),(5,17),(6,17),(7,17),(8,17),(0,18),(1,18),(2,18)] (by simp[All2,au,aF]) (by decide) ?_
  rintro p hp x y hx hy
  simp only[List.mem_cons,List.not_mem_nil,or_false] at hp
  rcases hp with rfl | rfl | rfl | rfl | rfl | rfl | rfl | rfl | rfl | rfl | rfl | rfl<;>(simp at hx hy;subst hx;subst hy;refine dG rfl rfl rfl rfl ?_ ?_ ?_<;>simp[au,aF,bQ,hrf,bM ryn]<;>first | omega | (intro i' hi';rcases lg1 i' hi' with h | h<;>first | omega | simp at h) | skip)
 clear hNr hrf hbb hO hP hNr2 hrf2 x2 f2 n2 f1 n1 vid1 lg1 hlb
 rw[zb,aB] at hI1D
 exact fin _ _ _ _ (by simp[sx,fU,St,h1,h2,h3,h4,h5,h6,h7,h9,h14,h15,h18]) (by simp[sx,h19]) (hI1.same he (by simp) (by simp)) hI1D
theorem KU {d:Nat}{e:ME}{r6 r18:AV}{i v cap:Nat}{cards:List Int}{Q:QT}(hd:0<d)(he:e.Ok)(hpr:MPr e)(hi:i<e.n)(hv:v<e.n)(hr18:One (S.bD cards) NoP 0 .nil r18)(hc1:∀x∈cards,1<=x/\x<=4)(hc6:cards.length<=12)(hlen:(S.bD cards).length<=1000000)
  {t:T} {g:G} {V:Nat->AV} {W:Nat->List (List AV)} {c:Nat->Int} {ow:List Bool} {R:List (List Int)} {F N O:Nat->List Int} (ht:fU e r6 r18 i v t) (h19:tat t 19=.int .i64 0)
  (hcv:c v=2\/c v=3) (hol:ow.length=e.n) (hon:ow[v]?=some true->(F v).length<cards.length) (hFl:(F v).length<=100)
  (hI:MI e g V W c ow cap) (hD:MD e W R F N O) (hOv:O v=[])
  (fin:∀t g V W l,fU e r6 r18 i v t->MI e g V W c ow cap->MD e W R F N (aP O v l)->l.length=(S.bD cards).length->(∀x∈l,0<=x/\x<c v)->Q (.exit 12) t [] g) :
  wpL (wp C0 d none dh) Q t [] g:=by
 have hoo:=he.ord
 have hn1:=he.n1
 have ryn:=eZ he.vn
 have ry5:=eZ he.v5
 obtain ⟨z18,ez,hs18⟩:=hr18
 injection ez with ez;subst ez
 obtain ⟨lrows,r1,r2,r3,r4⟩:=hs18.all
 have r1:∀h',ah h' 1 r18=some lrows:=r1
 simp only[dh,fN]
 refine bB (S.bD cards).length (by omega) (fun k t df g=>df=[]/\fU e r6 r18 i v t/\∃V W l,MI e g V W c ow cap/\MD e W R F N (aP O v l)/\l.length=k/\∀x∈l,0<=x/\x<c v)
  ⟨rfl,ht,V,W,[],hI,by rw[DF hOv];exact hD,rfl,by simp⟩ h19 (by decide) (by rintro j t df g v s (rfl | rfl | rfl)<;>simp[fU,St,sx]) ?_ ?_ ?_
 ·rintro j t df g hj ⟨rfl,⟨h1,h2,h3,h4,h5,h6,h7,h9,h14,h15,h18,-⟩,hx⟩ h19
  simp only[sx,sy,SO.run,↓reduceIte,Nat.reduceEqDiff,h1,h2,h3,h4,h5,h6,h7,h9,h14,h15,h18,h19,hs18.len,fU,St]
  exact hx
 ·clear ht h19 hI hD
  rintro j t df g hj ⟨rfl,⟨h1,h2,h3,h4,h5,h6,h7,h9,h14,h15,h18,-⟩,V,W,l,hI,hD,hl1,hl2⟩ h19
  obtain ⟨x,hx,-,hm⟩:=af hj
  obtain ⟨row,q1,q2⟩:=r3 j x hx
  obtain ⟨xr,rfl,hxr⟩:=dk.1 q2
  have hxr:IT 0 x xr:=⟨xr,rfl,hxr⟩
  have hjr:j<lrows.length:=by omega
  have hco:=FE (fun c h=>(hc1 c h).1) x hm
  have hxl:x.length=cards.length:=hco.1.symm
  have hxv:∀y∈x,0<=y/\y<4:=fun y hy=>by
   obtain ⟨k,hk,rfl⟩:=List.mem_iff_getElem.1 hy
   obtain ⟨cd,hcd⟩:∃cd,cards[k]?=some cd:=⟨_,List.getElem?_eq_getElem (by omega)⟩
   have:=hco.2 k cd _ hcd (List.getElem?_eq_getElem hk)
   have:=hc1 cd (List.mem_of_getElem? hcd)
   omega
  obtain ⟨y,oa,hy,hoa⟩:=hpr.2 i hi
  have hip:i<e.prow.length:=by rw[hpr.1];exact hi
  obtain ⟨orows,o1,o2,o3,o4⟩:=hoa.all
  have o1:∀h',ah h' 1 oa=some orows:=o1
  have hin:∀k:Nat,0<y.2.2.2.length->∃z:UInt8,orows[k % y.2.2.2.length]?=some [u8v z]/\k % y.2.2.2.length<orows.length:=fun k hk=>by
   have hlt:=Nat.mod_lt k hk
   obtain ⟨z,hz⟩:∃z,y.2.2.2[k % y.2.2.2.length]?=some z:=⟨_,List.getElem?_eq_getElem hlt⟩
   obtain ⟨row,w1,w2⟩:=o3 _ z hz
   rw[cF.1 w2] at w1
   exact ⟨z,w1,by omega⟩
  have last:∀(t:T) (B:Int),fU e r6 r18 i v t->tat t 19=.int .i64 (j:Int)->tat t 20=.int .i64 B->0<=B ->
    wp C0 d none bG (kR (fun t df g=>(df=[]/\fU e r6 r18 i v t/\∃V W l,MI e g V W c ow cap/\MD e W R F N (aP O v l)/\l.length=j+1/\∀x∈l,0<=x/\x<c v)/\tat t 19=.int .i64 (j:Int)) 13 Q) t [] g:=fun t B ht h19 h20 hB =>
   K5 he hv ht h19 h20 hB hcv hI hD (by omega) fun t g V W ht h19 hI hD=>by
    rw[vy]
    refine ⟨⟨rfl,ht,V,W,_,hI,hD,by simp[hl1],fun x hx=>?_⟩,h19⟩
    rcases List.mem_append.1 hx with h | h
    ·exact hl2 x h
    ·simp at h;subst h
     exact ⟨Int.emod_nonneg _ (by omega),Int.emod_lt_of_pos _ (by omega)⟩
  have mid:∀(t:T) (B:Int),fU e r6 r18 i v t->tat t 19=.int .i64 (j:Int)->tat t 20=.int .i64 B->0<=B->B<1000000 ->
    wp C0 d none db (kR (fun t df g=>(df=[]/\fU e r6 r18 i v t/\∃V W l,MI e g V W c ow cap/\MD e W R F N (aP O v l)/\l.length=j+1/\∀x∈l,0<=x/\x<c v)/\tat t 19=.int .i64 (j:Int)) 13 Q) t [] g:=by
   rintro t B ⟨h1,h2,h3,h4,h5,h6,h7,h9,h14,h15,h18,-⟩ h19 h20 hB hBB
   have hvo:v<(ow.map fun x=>[AV.bool x]).length:=by rw[List.length_map,hol];exact hv
   have hvo2:v<ow.length:=by omega
   have hrow:(ow.map fun x=>[AV.bool x])[v]?=some [.bool ow[v]]:=by rw[List.getElem?_map,List.getElem?_eq_getElem hvo2];rfl
   simp only[db,sx,SO.run,↓reduceIte,Nat.reduceEqDiff,h9,h15,hI.h9.rows,hvo,hrow,Option.isSome_some,Option.getD_some]
   refine aw (fun hb=>?_) (fun hb=>?_)
   ·have hfl:=hon (by rw[List.getElem?_eq_getElem hvo2,hb])
    have hOw:=hI.fam.1 (3*v+1) (by omega)
    rw[hD.f v hv] at hOw
    have lF:=bh hOw.rows
    rw[List.length_map] at lF
    simp only[sx,sy,SO.run,↓reduceIte,Nat.reduceEqDiff,h4,h15,hI.h4,hI.hN.rows,bS,hv,ryn,bJ c V hv,dz,lF,Option.isSome_some,Option.getD_some]
    refine KW (B:=B) (cc:=j) (x:=x) (xr:=xr) (fst:=((F v).length:Int)) (e:=e) (r6:=r6) (r18:=r18) (i:=i) (v:=v) hd r1 q1 hxr (by omega) hxv (by simp[sx,fU,St,h1,h2,h3,h4,h5,h6,h7,h9,h14,h15,h18]) (by simp[sx,h19]) (by simp[sx,h20]) (by simp[sx]) (by simp[sx]) (by simp[sx]) ?_
    rintro t key ⟨h1,h2,h3,h4,h5,h6,h7,h9,h14,h15,h18,-⟩ h19 h20 h21 h22 k0 k1
    have hp2:(4:Int) ^ 12=16777216:=by decide
    obtain ⟨kk,rfl⟩:=Int.eq_ofNat_of_zero_le k0
    simp only[fR,sx,sy,SO.run,↓reduceIte,Nat.reduceEqDiff,h5,h14,hI.h5.rows,hip,hy,ry5,hoa.len,Option.isSome_some,Option.getD_some]
    have fin2:∀(t:T) (B:Int),fU e r6 r18 i v t->tat t 19=.int .i64 (j:Int)->tat t 20=.int .i64 B->tat t 21=.int .i64 ((F v).length:Int)->0<=B->B<1000000 ->
      wp C0 d none cS (kS (wp C0 d none bG (kR (fun t df g=>(df=[]/\fU e r6 r18 i v t/\∃V W l,MI e g V W c ow cap/\MD e W R F N (aP O v l)/\l.length=j+1/\∀x∈l,0<=x/\x<c v)/\tat t 19=.int .i64 (j:Int)) 13 Q))
       (kR (fun t df g=>(df=[]/\fU e r6 r18 i v t/\∃V W l,MI e g V W c ow cap/\MD e W R F N (aP O v l)/\l.length=j+1/\∀x∈l,0<=x/\x<c v)/\tat t 19=.int .i64 (j:Int)) 13 Q)) t [] g:=by
     rintro t B ⟨h1,h2,h3,h4,h5,h6,h7,h9,h14,h15,h18,-⟩ h19 h20 h21 hB hB2
     have hfx:(F v).length<x.length:=by omega
     obtain ⟨z,hz,-,hzm⟩:=af hfx
     obtain ⟨z0,z1⟩:=hxv z hzm
     simp only[cS,sx,SO.run,↓reduceIte,Nat.reduceEqDiff,h18,h19,h20,h21,r1,hjr,q1,hxr.rows,hfx,hz,ci,List.length_map,List.getElem?_map,Option.map_some,Option.isSome_some,Option.getD_some,
      an (show -9223372036854775808<=B+z by omega) (show B+z<9223372036854775808 by omega)]
     exact last _ (B+z) (by simp[sx,fU,St,h1,h2,h3,h4,h5,h6,h7,h9,h14,h15,h18]) (by simp[sx,h19]) (by simp[sx]) (by omega)
    refine aw (fun hb=>?_) (fun hb=>?_)
    ·have hpos:0<y.2.2.2.length:=by simpa using hb
     obtain ⟨z,hz,hzl⟩:=hin kk hpos
     have z8:z.toNat<256:=z.toNat_lt
     have em:((kk:Int) % (y.2.2.2.length:Int))=((kk % y.2.2.2.length:Nat):Int):=by omega
     simp only[sx,sy,SO.run,↓reduceIte,Nat.reduceEqDiff,h5,h14,h22,hI.h5.rows,hip,hy,ry5,hoa.len,o1,hzl,hz,u8v,em,Option.isSome_some,Option.getD_some,bC .i64 (show (0:Int)<=(kk:Int) by omega) (show 0<(y.2.2.2.length:Int) by omega),
      an (show -9223372036854775808<=(z.toNat:Int) by omega) (show (z.toNat:Int)<9223372036854775808 by omega)]
     exact fin2 _ (z.toNat:Int) (by simp[sx,fU,St,h1,h2,h3,h4,h5,h6,h7,h9,h14,h15,h18]) (by simp[sx,h19]) (by simp[sx]) (by simp[sx,h21]) (by omega) (by omega)
    ·simp only[sx]
     exact fin2 _ B (by simp[sx,fU,St,h1,h2,h3,h4,h5,h6,h7,h9,h14,h15,h18]) (by simp[sx,h19]) (by simp[sx,h20]) (by simp[sx,h21]) hB hBB
   ·simp only[sx]
    exact last _ B (by simp[sx,fU,St,h1,h2,h3,h4,h5,h6,h7,h9,h14,h15,h18]) (by simp[sx,h19]) (by simp[sx,h20]) hB
  simp only[sx,sy,SO.run,↓reduceIte,Nat.reduceEqDiff,h5,h14,hI.h5.rows,hip,hy,ry5,hoa.len,Option.isSome_some,Option.getD_some]
  refine aw (fun hb=>?_) (fun hb=>?_)
  ·have hpos:0<y.2.2.2.length:=by simpa using hb
   obtain ⟨z,hz,hzl⟩:=hin j hpos
   have z8:z.toNat<256:=z.toNat_lt
   have em:((j:Int) % (y.2.2.2.length:Int))=((j % y.2.2.2.length:Nat):Int):=by omega
   simp only[sx,sy,SO.run,↓reduceIte,Nat.reduceEqDiff,h5,h14,h19,hI.h5.rows,hip,hy,ry5,hoa.len,o1,hzl,hz,u8v,em,Option.isSome_some,Option.getD_some,bC .i64 (show (0:Int)<=(j:Int) by omega) (show 0<(y.2.2.2.length:Int) by omega),
    an (show -9223372036854775808<=(z.toNat:Int) by omega) (show (z.toNat:Int)<9223372036854775808 by omega)]
   exact mid _ (z.toNat:Int) (by simp[sx,fU,St,h1,h2,h3,h4,h5,h6,h7,h9,h14,h15,h18]) (by simp[sx,h19]) (by simp[sx]) (by omega) (by omega)
  ·simp only[sx]
   exact mid _ 0 (by simp[sx,fU,St,h1,h2,h3,h4,h5,h6,h7,h9,h14,h15,h18]) (by simp[sx,h19]) (by simp[sx]) (by omega) (by omega)
 ·rintro t df g ⟨rfl,ht,V,W,l,hI,hD,hl1,hl2⟩
  exact fin t g V W l ht hI hD hl1 hl2
end
end Hx
end
section
namespace Hx
open Go
noncomputable section
def szs (c:Nat->Int)(R:List (List Int))(l p:List Int):List Int:=l.map (fun x=>c x.toNat)++p.map fun x=>(R[x.toNat]?.map fun r=>(r.length:Int)).getD 0
theorem Fg {e:ME}{c:Nat->Int}{R:List (List Int)}{F N O:Nat->List Int}{l p q:List Int}{k:Int}(hl:S.aq l e.n=true):S.ap (mkM e c R F N O) ⟨k,l,p,q⟩=szs c R l p:=by
 unfold S.ap szs
 congr 1
 refine List.map_congr_left fun x hx=>?_
 have:=aE hl x hx
 unfold S.az
 rw[D2 (by omega)]
 rfl
theorem uL (gr q z:Int):(S.a_ gr q z).length=2\/(S.a_ gr q z).length=3:=by
 unfold S.a_;split
 ·exact .inl rfl
 ·exact .inr rfl
theorem pN {e:ME}{c:Nat->Int}{R:List (List Int)}{N:Nat->List Int}{l p:List Int}(hF:MF e c R N)(hl:S.aq l e.n=true)(hp:S.aq p R.length=true):∀x∈szs c R l p,2<=x/\x<=3:=by
 intro x hx
 rcases List.mem_append.1 hx with h | h
 ·obtain ⟨y,hy,rfl⟩:=List.mem_map.1 h
  have:=aE hl y hy
  have:=hF.card y.toNat (by omega)
  omega
 ·obtain ⟨y,hy,rfl⟩:=List.mem_map.1 h
  have:=aE hp y hy
  have hlt:y.toNat<R.length:=by omega
  rw[List.getElem?_eq_getElem hlt]
  obtain ⟨q,z,-,-,-,hr⟩:=hF.roots _ (List.getElem_mem hlt)
  have:=uL e.gr q z
  rw[<-hr] at this
  show 2<=((R[y.toNat]).length:Int)/\((R[y.toNat]).length:Int)<=3
  omega
structure MNd (e:ME) (c:Nat->Int) (R:List (List Int)) (F N O:Nat->List Int) (num:Nat->Nat) (k:Nat):Prop where
 places:S.aq (F (num k)) e.n=true
 down:∀x∈F (num k),∃k',k'<k/\x=(num k':Int)
 len:(F (num k)).length<=4
 outs:(O (num k)).length=(S.bD (szs c R (F (num k)) (N (num k)))).length
 out:∀x∈O (num k),0<=x/\x<c (num k)
theorem o8 {cards:List Int}:∀{f:Nat} {v:List Int},(S.bG cards f v).length<=f
 | 0,v=>Nat.le_refl _
 | f+1,v=>by
  simp only[S.bG,List.length_cons]
  split
  ·have:=o8 (cards:=cards) (f:=f) (v:=(S.bi cards v).1);omega
  ·simp
theorem Lc {d:Nat}{e:ME}{r6:AV}{pl:List Int}{num:Nat->Nat}{cap:Nat}{Q:QT}(hd:0<d)(he:e.Ok)(hpr:MPr e)(hp:MN e r6 pl num)
  {t:T} {g:G} {V:Nat->AV} {W:Nat->List (List AV)} {c:Nat->Int} {ow:List Bool} {R:List (List Int)} {N:Nat->List Int} (ht:MSt e r6 t) (h14:tat t 14=.int .i64 0)
  (hI:MI e g V W c ow cap) (hD:MD e W R (fun _=>[]) N (fun _=>[])) (hF:MF e c R N) (hol:ow.length=e.n) (hon:∀i,i<e.n->ow[i]?=some true->N i≠[]) (hR6:R.length<=6) (hN3:∀i,(N i).length<=3)
  (fin:∀t g V W F O,MSt e r6 t->MI e g V W c ow cap->MD e W R F N O->(∀k,k<e.n->MNd e c R F N O num k)->Q (.exit 6) t [] g) :
  wpL (wp C0 d none cZ) Q t [] g:=by
 have hoo:=he.ord
 have hn1:=he.n1
 simp only[cZ,fM]
 refine bB e.n (by omega) (fun i t df g=>df=[]/\MSt e r6 t/\∃V W F O,MI e g V W c ow cap/\MD e W R F N O/\(∀k,i<=k->k<e.n->F (num k)=[]/\O (num k)=[])/\∀k,k<i->MNd e c R F N O num k)
  ⟨rfl,ht,V,W,_,_,hI,hD,fun k _ _=>⟨rfl,rfl⟩,fun k hk=>by omega⟩ h14 (by decide) (by rintro j t df g v s (rfl | rfl | rfl)<;>simp[MSt,St,sx]) ?_ ?_ ?_
 ·rintro j t df g hj ⟨rfl,⟨h1,h2,h3,h4,h5,h6,h7,h9,-⟩,hx⟩ h14
  simp only[sx,sy,SO.run,↓reduceIte,Nat.reduceEqDiff,h1,h2,h3,h4,h5,h6,h7,h9,h14,MSt,St]
  exact hx
 ·clear ht h14 hI hD
  rintro i t df g hi ⟨rfl,⟨h1,h2,h3,h4,h5,h6,h7,h9,-⟩,V,W,F,O,hI,hD,hz,hk⟩ h14
  have hil:i<pl.length:=(List.getElem?_eq_some_iff.1 (hp.at_ i hi)).1
  have hni:=hp.at_ i hi
  have hv:=hp.lt i hi
  obtain ⟨hFv,hOv⟩:=hz i (Nat.le_refl _) hi
  have hpr6:=hp.r.rows
  simp only[sx,SO.run,↓reduceIte,Nat.reduceEqDiff,h6,h14,hpr6,hil,hni,ci,List.length_map,List.getElem?_map,Option.map_some,Option.isSome_some,Option.getD_some]
  generalize hve:num i=v at *
  refine Lg (i:=i) (v:=v) hd he hpr hp hi hv (by simp[sx,qP,St,h1,h2,h3,h4,h5,h6,h7,h9,h14]) (by simp[sx]) hI hD hFv ?_
  clear h1 h2 h3 h4 h5 h6 h7 h9 h14 hI hD
  rintro t g V W l ⟨h1,h2,h3,h4,h5,h6,h7,h9,h14,h15,-⟩ hI hD hl1 hl2 hl3
  have hFlen:∀i',i'<e.n->(aP F v l i').length<=4:=fun i' hi'=>by
   by_cases e1:i'=v
   ·subst e1;rw[aB];exact hl3
   ·rw[ay _ _ e1]
    obtain ⟨k,hk1,rfl⟩:=hp.sur i' hi'
    by_cases e2:k<i
    ·exact (hk k e2).len
    ·rw[(hz k (by omega) hk1).1];simp
  have hOlen:∀i',i'<e.n->(O i').length<=1000000:=fun i' hi'=>by
   obtain ⟨k,hk1,rfl⟩:=hp.sur i' hi'
   by_cases e2:k<i
   ·rw[(hk k e2).outs]
    refine Nat.le_trans o8 ?_
    have hb:=pN hF (hk k e2).places (hF.inc _ hi')
    have:=bD (l:=szs c R (F (num k)) (N (num k))) fun y hy=>by have:=hb y hy;omega
    have hl4:(szs c R (F (num k)) (N (num k))).length<=7:=by have:=(hk k e2).len;have:=hN3 (num k);simp[szs];omega
    have:=ch hl4
    have:(4:Int) ^ 7=16384:=by decide
    omega
   ·rw[(hz k (by omega) hk1).2];simp
  have hA:=hI.agg he hD (by omega) fun i' hi'=>⟨by have:=hFlen i' hi';omega,by have:=hN3 i';omega,by have:=hOlen i' hi';omega⟩
  have hb:=pN hF hl1 (hF.inc v hv)
  have hll:(szs c R l (N v)).length<=7:=by have:=hN3 v;simp[szs];omega
  have hpb:=bD (l:=szs c R l (N v)) fun y hy=>by have:=hb y hy;omega
  have:=ch hll
  have h47:(4:Int) ^ 7=16384:=by decide
  simp only[sx,sy,SO.run,↓reduceIte,Nat.reduceEqDiff,Nat.reduceAdd,Nat.reduceLeDiff,fD,h4,h15,hI.h4]
  refine a_ (tU (i:=v) (x:=⟨c v,l,N v,O v⟩) hd hA (by rw[D2 hv,aB]) (by simp[mkM];omega) (by simp[mkM];omega) (by simpa [mkM] using hl1) (by simpa [mkM] using hF.inc v hv)) fun r hr=>?_
  rw[Fg hl1] at hr
  simp only[sx,SO.run,↓reduceIte]
  refine a_ (Kx hd (hr.sl _) (fun x hx=>by have:=hb x hx;omega) (by omega) (by omega)) fun r18 hr18=>?_
  simp only[sx,SO.run,↓reduceIte]
  refine KU (e:=e) (r6:=r6) (r18:=r18) (i:=i) (v:=v) (cards:=szs c R l (N v)) (F:=aP F v l) hd he hpr hi hv hr18 (fun x hx=>by have:=hb x hx;omega) (by omega) (Nat.le_trans o8 (by omega)) (by simp[sx,fU,St,h1,h2,h3,h4,h5,h6,h7,h9,h14,h15]) (by simp[sx]) (hF.card v hv) hol (fun h=>?_) (by rw[aB];omega) hI hD hOv ?_
  ·rw[aB]
   have:=List.length_pos_iff.2 (hon v hv h)
   simp[szs];omega
  clear h1 h2 h3 h4 h5 h6 h7 h9 h14 h15 hI hD hA
  rintro t g V W lo ⟨h1,h2,h3,h4,h5,h6,h7,h9,h14,h15,h18,-⟩ hI hD hlo1 hlo2
  simp only[sx,↓reduceIte]
  refine ⟨⟨rfl,by simp[MSt,St,h1,h2,h3,h4,h5,h6,h7,h9],V,W,_,_,hI,hD,fun k hk1 hk2=>?_,fun k hk1=>?_⟩,by simp[h14]⟩
  ·have hne:num k≠v:=fun e1=>by have:=hp.inj k i hk2 hi (by rw[e1,hve]);omega
   rw[ay _ _ hne,ay _ _ hne]
   exact hz k (by omega) hk2
  ·by_cases e1:k=i
   ·subst e1
    exact ⟨by rw[hve,aB];exact hl1,by rw[hve,aB];exact hl2,by rw[hve,aB];exact hl3,by rw[hve,aB,aB];exact hlo1,by rw[hve,aB];exact hlo2⟩
   ·have hne:num k≠v:=fun e2=>e1 (hp.inj k i (by omega) hi (by rw[e2,hve]))
    have hkk:=hk k (by omega)
    exact ⟨by rw[ay _ _ hne];exact hkk.places,by rw[ay _ _ hne];exact hkk.down,by rw[ay _ _ hne];exact hkk.len,by rw[ay _ _ hne,ay _ _ hne];exact hkk.outs,by rw[ay _ _ hne];exact hkk.out⟩
 ·rintro t df g ⟨rfl,ht,V,W,F,O,hI,hD,hz,hk⟩
  exact fin t g V W F O ht hI hD hk
end
end Hx
end
section
namespace Hx
open Go
noncomputable section
structure Made (m:Causal):Prop where
 ex:∃(e:ME) (c:Nat->Int) (R:List (List Int)) (F N O:Nat->List Int) (num:Nat->Nat),m=mkM e c R F N O/\(1<=e.n/\e.n<=4)/\(2<=e.gr/\e.gr<=12)/\MF e c R N/\R.length<=6/\(∀i,(N i).length<=3) /\
  (∀k,k<e.n->num k<e.n)/\(∀i j,i<e.n->j<e.n->num i=num j->i=j)/\(∀u,u<e.n->∃k,k<e.n/\num k=u)/\∀k,k<e.n->MNd e c R F N O num k
def GL:VS:=fun P k h v=>∃m,Made m/\Agg m P k h v
theorem Im:Snb GL 1:=by
 refine ⟨fun {P k h v n} d r hn=>?_,fun {k h v n} r hn=>?_⟩
 ·obtain ⟨m,hm,r⟩:=r
  obtain ⟨v',e,r'⟩:=(aQ m).snap d r hn
  exact ⟨v',e,m,hm,r'⟩
 ·obtain ⟨m,hm,r⟩:=r
  exact (aQ m).tag r hn
theorem Id (os:List UInt8)(n:Nat):∃num:Nat->Nat,(∀k,k<n->(S.aG os n)[k]?=some (num k:Int))/\(∀k,k<n->num k<n)/\(∀i j,i<n->j<n->num i=num j->i=j)/\∀u,u<n->∃k,k<n/\num k=u:=by
 have hp:=zw os n
 have hl:=kv os n
 have hmem:∀x∈S.aG os n,0<=x/\x<n:=fun x hx=>by
  have:=hp.mem_iff.1 hx
  simp at this
  obtain ⟨a,ha,rfl⟩:=this
  omega
 have hnd:(S.aG os n).Nodup:=by
  rw[hp.nodup_iff]
  exact List.Pairwise.map _ (fun a b h e=>h (by omega)) (List.nodup_range (n:=n))
 have hat:∀k,k<n->(S.aG os n)[k]?=some ((((S.aG os n)[k]?.getD 0).toNat:Nat):Int):=fun k hk=>by
  have hk2:k<(S.aG os n).length:=by omega
  rw[List.getElem?_eq_getElem hk2,Option.getD_some]
  have:=hmem _ (List.getElem_mem hk2)
  congr 1;omega
 refine ⟨fun k=>((S.aG os n)[k]?.getD 0).toNat,hat,fun k hk=>?_,fun i j hi hj e=>?_,fun u hu=>?_⟩
 ·have hk2:k<(S.aG os n).length:=by omega
  have:=hmem _ (List.getElem_mem hk2)
  simp only[List.getElem?_eq_getElem hk2,Option.getD_some]
  omega
 ·have hi2:i<(S.aG os n).length:=by omega
  have hj2:j<(S.aG os n).length:=by omega
  have h1:=hmem _ (List.getElem_mem hi2)
  have h2:=hmem _ (List.getElem_mem hj2)
  simp only[List.getElem?_eq_getElem hi2,List.getElem?_eq_getElem hj2,Option.getD_some] at e
  have e2:(S.aG os n)[i]=(S.aG os n)[j]:=by omega
  rcases Nat.lt_trichotomy i j with h | h | h
  ·exact absurd e2 (List.pairwise_iff_getElem.1 hnd i j hi2 hj2 h)
  ·exact h
  ·exact absurd e2.symm (List.pairwise_iff_getElem.1 hnd j i hj2 hi2 h)
 ·have:((u:Nat):Int)∈S.aG os n:=hp.mem_iff.2 (List.mem_map.2 ⟨u,List.mem_range.2 hu,rfl⟩)
  obtain ⟨k,hk,hk2⟩:=List.mem_iff_getElem.1 this
  refine ⟨k,by omega,?_⟩
  simp only[List.getElem?_eq_getElem hk,Option.getD_some,hk2]
  omega
theorem I7 {g:G}{b sz:Nat}{v x:AV}{rows src:List (List AV)}{K:AV->G->Prop}{D:ADf->Prop}(hv:Own g b v sz rows)(hne:rows≠[])(hx:ah g.h sz x=some src)
  (k:∀g' z,Own g' b v sz (src.take rows.length++rows.drop src.length)->g'.nx=g.nx->(∀i,vid v≠some i->g'.h.get i=g.h.get i)->K (.int .i64 z) g'):(uh sz v x g).sat K g D:=by
 unfold uh
 rw[hx]
 rcases hv with ⟨rfl,rfl⟩ | ⟨id,ep,lo,h1,h2,rfl,h3⟩
 ·exact absurd rfl hne
 ·dsimp only
  simp only[G.get_eq,h3,aa,show Nat.beq ep ep=true from Nat.beq_refl ep,show Nat.beq sz sz=true from Nat.beq_refl sz,aD,Bool.true_and,notb_eq,Bool.not_false,Bool.and_true,Nat.ble_eq,Nat.zero_add,Nat.le_refl,if_true]
  refine k _ _ (.inr ⟨id,ep,lo,h1,by simpa using h2,?_,?_⟩) (by simp) (fun i hi=>?_)
  ·congr 1
   simp;omega
  ·simp only[G.put_h,bi,bg]
   congr 1
   have hmin:Nat.min src.length rows.length=min src.length rows.length:=rfl
   have key:(List.take (Nat.min src.length rows.length) src).length=min src.length rows.length:=by rw[List.length_take,hmin];omega
   have e1:jk rows 0 (List.take (Nat.min src.length rows.length) src)=(List.take (Nat.min src.length rows.length) src)++rows.drop (min src.length rows.length):=by
    unfold jk
    split
    ·rename_i r hr
     rw[hr,gk]
     rw[hr] at key
     cases rows with
     | nil=>exact absurd rfl hne
     | cons a l =>
      have:min src.length (a::l).length=1:=by rw[<-key];rfl
      rw[this];rfl
    ·rw[bg,bk,aD,key];simp
   rw[e1]
   by_cases h:src.length<=rows.length
   ·rw[hmin,Nat.min_eq_left h,List.take_of_length_le (Nat.le_refl _),List.take_of_length_le h]
   ·rw[hmin,Nat.min_eq_right (by omega),List.drop_length,List.drop_of_length_le (by omega)]
  ·rw[G.put_h,aq _ _ _ (fun e=>hi (by rw[e];rfl))]
end
end Hx
end
section
namespace Hx
open Go
noncomputable section
theorem SlR.wide {α:Type} [Rp α]{P:Nat->Prop}{k k':Nat}{h h':H}{l:List α}{v:AV}(r:SlR NoP k h l v)(hk:k<=k'):SlR P k' h' l v:=by
 obtain ⟨w,hw,q⟩:=Rp.tree (P:=P) (k':=k') (h':=h') (show Rp.rp NoP k h l [v] from ⟨v,rfl,r⟩) hk
 injection hw with hw;subst hw;exact q
theorem Own.lower {g:G}{b b':Nat}{v:AV}{sz:Nat}{rows:List (List AV)}(h:Own g b v sz rows)(hb:b'<=b):Own g b' v sz rows:=by
 rcases h with h | ⟨id,ep,lo,h1,h2,h3,h4⟩
 ·exact .inl h
 ·exact .inr ⟨id,ep,lo,by omega,h2,h3,h4⟩
structure M0 (n p4 q i5 p7:Nat) (nv w5 cl:AV) (row0:List AV) (prow:List (List AV)) (gr:Int) (g:G) (cf:Nat->Int):Prop where
 h0:g.h.get 0=.cells 5 [row0] 0 false false
 h1:g.h.get 1=.cells 3 [[.int .i64 0,.nils,.nils]] 0 false false
 hN:Own g 2 nv 4 (fB n cf fun _=>.nils)
 h4:g.h.get p4=.cells 3 [[.int .i64 gr,.nils,nv]] 0 false false
 h5:Own g 2 w5 4 prow
 h7:g.h.get p7=.cells 2 [[cl,.int .i64 0]] 0 false false
 nx:p7<g.nx
section
variable {n p4 q i5 p7:Nat}{nv w5 cl:AV}{row0:List AV}{prow:List (List AV)}{gr:Int}{g g':G}{cf cf':Nat->Int}
theorem M0.node (h:M0 n p4 q i5 p7 nv w5 cl row0 prow gr g cf)(ho:1<q/\q<p4/\p4<i5/\i5<p7)(v5:vid w5=some i5)(vn:vid nv=some q)(hN:Own g' 2 nv 4 (fB n cf' fun _=>.nils))(hn:g.nx<=g'.nx)
  (hf:∀i,vid nv≠some i->g'.h.get i=g.h.get i):M0 n p4 q i5 p7 nv w5 cl row0 prow gr g' cf':=by
 have hf':∀i,i≠q->g'.h.get i=g.h.get i:=fun i hi=>hf i (by rw[vn];intro e;injection e with e;exact hi e.symm)
 have:=h.nx
 exact { h0:=by rw[hf' 0 (by omega),h.h0],h1:=by rw[hf' 1 (by omega),h.h1],hN:=hN,h4:=by rw[hf' _ (by omega),h.h4]
         h5:=h.h5.fr hn fun i hi=>hf' i (by have:=bO v5 hi;omega),h7:=by rw[hf' _ (by omega),h.h7],nx:=by omega }
theorem M0.same (h:M0 n p4 q i5 p7 nv w5 cl row0 prow gr g cf)(hf:g'.h=g.h)(hn:g.nx<=g'.nx):M0 n p4 q i5 p7 nv w5 cl row0 prow gr g' cf :=
 { h0:=by rw[hf,h.h0],h1:=by rw[hf,h.h1],hN:=h.hN.fr hn fun i _=>by rw[hf],h4:=by rw[hf,h.h4],h5:=h.h5.fr hn fun i _=>by rw[hf],h7:=by rw[hf,h.h7],nx:=by have:=h.nx;omega }
end
theorem H7 {d:Nat}{g:G}{x:Ak}{v:AV}(hd:0<d)(hm:Agg x NoP 0 g.h v):∃r,ak C0 d N.bm [v] g=.val r/\GL NoP 0 .nil r:=by
 have e0:=cj d hm
 obtain ⟨cs,rfl,hc⟩:=hm
 obtain ⟨a,b,c,e,rfl,ha,hb,hcc,hee⟩:=zi.1 hc
 rw[m8]
 refine aV pq (xs:=[.agg [u8v x.1,a,b,c,e]]) (by simp only[aH,e0]) (by simp[eJ]) Im (by decide) hd ?_
 clear e0 hc
 have ha:=ha.tree (h':=.nil) (Nat.le_refl _)
 have hb:=hb.tree (h':=.nil) (Nat.le_refl _)
 have hcc:=hcc.tree (h':=.nil) (Nat.le_refl _)
 have hee:=hee.tree (h':=.nil) (Nat.le_refl _)
 have x8:x.1.toNat<256:=x.1.toNat_lt
 obtain ⟨n,hn⟩:∃n,n=min (max x.2.1.length 1) 4:=⟨_,rfl⟩
 have hn1:1<=n/\n<=4:=by omega
 have hnI:min (max ((x.2.1.length:Nat):Int) 1) 4=(n:Int):=by omega
 obtain ⟨gr,hgr⟩:∃gr:Int,gr=2+(x.1.toNat:Int) % 11:=⟨_,rfl⟩
 have hg1:2<=gr/\gr<=12:=by omega
 simp only[eJ,sx,sy,SO.run,↓reduceIte,Nat.reduceEqDiff,Nat.reduceAdd]
 generalize hg0:((G.empty.new (AObj.cells 5 [[u8v x.fst,a,b,c,e]] 0 false false)).new (AObj.cells 3 [[AV.int IntKind.i64 0,AV.nils,AV.nils]] 0 false false))=g0
 have f0:g0.h.get 0=.cells 5 [[u8v x.1,a,b,c,e]] 0 false false:=by rw[<-hg0];simp[sx,H.get_put]
 have f1:g0.h.get 1=.cells 3 [[.int .i64 0,.nils,.nils]] 0 false false:=by rw[<-hg0];simp[sx,H.get_put]
 have f2:g0.nx=2:=by rw[<-hg0];simp[sx]
 clear hg0
 simp only[gM,sx,sy,sf,SO.run,↓reduceIte,Nat.reduceEqDiff,Nat.reduceAdd,Nat.reduceLeDiff,f0,ha.len,hnI,u8v,bC .u8 (show (0:Int)<=(x.1.toNat:Int) by omega) (show (0:Int)<11 by decide),
  an (show -9223372036854775808<=(x.1.toNat:Int) % 11 by omega) (show (x.1.toNat:Int) % 11<9223372036854775808 by omega),an (show -9223372036854775808<=2+(x.1.toNat:Int) % 11 by omega) (show 2+(x.1.toNat:Int) % 11<9223372036854775808 by omega),<-hgr,an (show -9223372036854775808<=gr by omega) (show gr<9223372036854775808 by omega)]
 refine AY (b:=2) (n:=n) (by simp[aZ];omega) (by simp[aZ];omega) (by simp[f2]) fun nv g1 hnv n1 fr1 v1 lg1=>?_
 simp only[sx,sy] at n1 fr1 v1 lg1
 have f0':g1.h.get 0=.cells 5 [[u8v x.1,a,b,c,e]] 0 false false:=by rw[fr1 0 (by omega),f0]
 have f1':g1.h.get 1=.cells 3 [[.int .i64 0,.nils,.nils]] 0 false false:=by rw[fr1 1 (by omega),f1]
 simp only[sx,sy,sf,SO.run,↓reduceIte,Nat.reduceEqDiff,Nat.reduceAdd,Nat.reduceLeDiff,hnv.cell.1,hnv.cell.2]
 refine ⟨?_,?_⟩
 ·simp only[List.reverse_cons,List.reverse_nil,List.nil_append,List.cons_append,lg1]
  refine aX [false,false,false,false,false,false,true,false,true,true] [(0,6),(1,6),(2,6),(3,6),(4,6),(0,8),(1,8),(2,8),(3,8),(4,8),(5,8),(6,8),(7,8)] (by simp[All2,au,aF,bw]) (by decide) ?_
  rintro p hp x y hx hy
  simp only[List.mem_cons,List.not_mem_nil,or_false] at hp
  rcases hp with rfl | rfl | rfl | rfl | rfl | rfl | rfl | rfl | rfl | rfl | rfl | rfl | rfl<;>(simp at hx hy;subst hx;subst hy;refine dG rfl rfl rfl rfl ?_ ?_ ?_<;>simp[au,aF,ap]<;>omega)
 refine ji (b:=2) (n:=n) (by simp[aZ];omega) (by simp[aZ];omega) (by simp;try omega) fun w5 g2 hw5 n2 fr2 v2=>?_
 simp only[sx,sy] at n2 fr2 v2
 obtain ⟨p4,hp4⟩:∃p4,p4=g1.nx+1+1:=⟨_,rfl⟩
 rw[<-hp4] at n2 fr2 v2
 have k0:g2.h.get 0=.cells 5 [[u8v x.1,a,b,c,e]] 0 false false:=by rw[fr2 0 (by omega),if_neg (by omega),if_neg (by omega),f0']
 have k1:g2.h.get 1=.cells 3 [[.int .i64 0,.nils,.nils]] 0 false false:=by rw[fr2 1 (by omega),if_neg (by omega),if_neg (by omega),f1']
 have k4:g2.h.get p4=.cells 3 [[.int .i64 gr,.nils,nv]] 0 false false:=by rw[fr2 p4 (by omega),if_pos rfl]
 have kN:Own g2 2 nv 4 (List.replicate n [AV.int IntKind.i64 0,AV.nils,AV.nils,AV.nils]):=hnv.fr (by omega) fun i hi=>by have:=bO v1 hi;rw[fr2 i (by omega),if_neg (by omega),if_neg (by omega)]
 simp only[<-hp4,sx,sy,sf,SO.run,↓reduceIte,Nat.reduceEqDiff,Nat.reduceAdd,Nat.reduceLeDiff,k0]
 have rA:=ha.rows
 obtain ⟨arows,ra1,ra2⟩:=rA
 have ra1:∀h',ah h' 4 a=some arows:=fun h'=>by
  obtain ⟨rr,q1,-⟩:=ha.all
  have q1:∀h',ah h' 4 a=some rr:=q1
  have:=(q1 .nil).symm.trans ra1
  injection this with this;subst this;exact q1 h'
 refine I7 hw5 (by intro h;have:=congrArg List.length h;simp at this;omega) (ra1 _) fun g3 z x5 n3 fr3=>?_
 have k0:g3.h.get 0=.cells 5 [[u8v x.1,a,b,c,e]] 0 false false:=by rw[fr3 0 (by rw[v2];intro h;injection h;omega),k0]
 have k1:g3.h.get 1=.cells 3 [[.int .i64 0,.nils,.nils]] 0 false false:=by rw[fr3 1 (by rw[v2];intro h;injection h;omega),k1]
 have k4:g3.h.get p4=.cells 3 [[.int .i64 gr,.nils,nv]] 0 false false:=by rw[fr3 p4 (by rw[v2];intro h;injection h;omega),k4]
 have kN:Own g3 2 nv 4 (List.replicate n [AV.int IntKind.i64 0,AV.nils,AV.nils,AV.nils]):=kN.fr (by omega) fun i hi=>by have:=bO v1 hi;rw[fr3 i (by rw[v2];intro h;injection h;omega)]
 simp only[sx,sy,sf,SO.run,↓reduceIte,Nat.reduceEqDiff,Nat.reduceAdd,Nat.reduceLeDiff,k0]
 refine AY (b:=2) (n:=n) (by simp[aZ];omega) (by simp[aZ];omega) (by simp;omega) fun w6 g4 hw6 n4 fr4 v4 lg4=>?_
 simp only[sx,sy] at n4 fr4 v4 lg4
 have k0:g4.h.get 0=.cells 5 [[u8v x.1,a,b,c,e]] 0 false false:=by rw[fr4 0 (by omega),k0]
 have hn5:vid w5=some (p4+1+1+1):=by rw[v2]
 have k1:g4.h.get 1=.cells 3 [[.int .i64 0,.nils,.nils]] 0 false false:=by rw[fr4 1 (by omega),k1]
 have k4:g4.h.get p4=.cells 3 [[.int .i64 gr,.nils,nv]] 0 false false:=by rw[fr4 p4 (by omega),k4]
 have kN:Own g4 2 nv 4 (List.replicate n [AV.int IntKind.i64 0,AV.nils,AV.nils,AV.nils]):=kN.fr (by omega) fun i hi=>by have:=bO v1 hi;rw[fr4 i (by omega)]
 have k5:=x5.fr (g':=g4) (by omega) fun i hi=>by have:=bO v2 hi;rw[fr4 i (by omega)]
 simp only[sx,sy,sf,SO.run,↓reduceIte,Nat.reduceEqDiff,Nat.reduceAdd,Nat.reduceLeDiff,k0,hw6.cell.1,hw6.cell.2,hee.cell.1,hee.cell.2]
 refine a_ (xC (P:=fun _=>True) (k:=0) (x:=(List.replicate n (0:UInt8),(0:UInt16),x.2.2.2.2)) (Nat.succ_pos d) ⟨_,rfl,pK.2 ⟨w6,e,rfl,?_,hee.wide (Nat.le_refl _)⟩⟩) fun r6 hr6=>?_
 ·refine Own.sl (α:=UInt8) (hw6.fr (by simp;omega) fun _ _=>by simp) (by simp;omega) ?_ fun _ _=>trivial
  have:=All2.repl (R:=Rp.rp (fun _=>True) 0 g4.h) (a:=(0:UInt8)) (b:=[AV.int IntKind.u8 0]) (cF.2 rfl) n
  simpa using this
 simp only[sx,sy,sf,SO.run,↓reduceIte,Nat.reduceEqDiff,Nat.reduceAdd,Nat.reduceLeDiff,iL]
 refine ⟨?_,?_⟩
 ·simp only[List.reverse_cons,List.reverse_nil,List.nil_append,List.cons_append,lg4]
  refine aX [false,true,false,false,false,false,false] [(1,2),(1,3)] (by simp[All2,au,aF,bw]) (by decide) ?_
  rintro p hp x y hx hy
  simp only[List.mem_cons,List.not_mem_nil,or_false] at hp
  rcases hp with rfl | rfl<;>(simp at hx hy;subst hx;subst hy;refine dG rfl rfl rfl rfl ?_ ?_ ?_<;>simp[au,aF,ap])
 have hpl:=hr6
 simp only[List.length_replicate,show min n 5=n by omega] at hr6
 clear hpl
 simp only[sx,sy,SO.run,↓reduceIte,Nat.reduceEqDiff,Nat.reduceAdd,Nat.reduceLeDiff,k0]
 refine Ft (us:=x.2.2.2.1) hcc fun g5 z5 n5 fr5=>?_
 have fr5:=fr5.2.1
 simp only[sx,sy] at z5 n5 fr5
 obtain ⟨p7,hp7⟩:∃p7,p7=g4.nx+1+1+1+1+1+1:=⟨_,rfl⟩
 rw[<-hp7] at z5 n5 fr5
 simp only[<-hp7,sx,sy,SO.run,↓reduceIte,Nat.reduceEqDiff,Nat.reduceAdd,Nat.reduceLeDiff]
 obtain ⟨prow,hprow⟩:∃p,p=(List.take (List.replicate n [AV.int IntKind.u8 0,AV.int IntKind.u8 0,AV.int IntKind.u8 0,AV.nils]).length arows++List.drop arows.length (List.replicate n [AV.int IntKind.u8 0,AV.int IntKind.u8 0,AV.int IntKind.u8 0,AV.nils])):=⟨_,rfl⟩
 rw[<-hprow] at k5
 obtain ⟨num,hnum1,hnum2,hnum3,hnum4⟩:=Id x.2.2.2.2 n
 obtain ⟨q,hq⟩:∃q,q=g0.nx+1+1+1+1+1+1:=⟨_,rfl⟩
 rw[<-hq] at v1 n1
 obtain ⟨i5,hi5⟩:∃i5,i5=p4+1+1+1:=⟨_,rfl⟩
 rw[<-hi5] at hn5
 have ho:1<q/\q<p4/\p4<i5/\i5<p7:=by omega
 have hM:M0 n p4 q i5 p7 nv w5 c [u8v x.1,a,b,c,e] prow gr g5 (fun _=>0) :=
  { h0:=by rw[fr5 0 (by omega),k0],h1:=by rw[fr5 1 (by omega),k1],h4:=by rw[fr5 p4 (by omega),k4],h5:=k5.fr (by omega) fun i hi=>by have:=bO hn5 hi;rw[fr5 i (by omega)]
    hN:=by
     have:fB n (fun _=>0) (fun _=>AV.nils)=List.replicate n [AV.int IntKind.i64 0,AV.nils,AV.nils,AV.nils]:=by
      show List.map (fun _=>[AV.int IntKind.i64 0,AV.nils,AV.nils,AV.nils]) (List.range n)=_
      rw[List.map_const',List.length_range]
     rw[this]
     exact kN.fr (by omega) fun i hi=>by have:=bO v1 hi;rw[fr5 i (by omega)]
    h7:=z5,nx:=by omega }
 have hr6r:=hr6.rows
 have hpl:=kv x.2.2.2.2 n
 generalize hpp:S.aG x.2.2.2.2 n=pl at *
 have ryn:=eZ v1
 have ry5:=eZ hn5
 have hrow5:∀i,i<n->∃(y:zh) (oa:AV),prow[i]?=some [u8v y.1,u8v y.2.1,u8v y.2.2.1,oa]/\SlR NoP 0 .nil y.2.2.2 oa:=fun i hi=>by
  by_cases hia:i<arows.length
  ·have hxl:=ra2.len
   obtain ⟨y,hy⟩:∃y,x.2.1[i]?=some y:=⟨_,List.getElem?_eq_getElem (by omega)⟩
   obtain ⟨row,w1,w2⟩:=ra2.get hy
   obtain ⟨oa,rfl,hoa⟩:=He.1 w2
   refine ⟨y,oa,?_,hoa.tree (Nat.le_refl _)⟩
   rw[hprow,List.length_replicate,List.getElem?_append_left (by rw[List.length_take];omega),List.getElem?_take_of_lt hi,w1]
  ·refine ⟨(0,0,0,[]),.nils,?_,by decide,rfl⟩
   rw[hprow,List.length_replicate,List.getElem?_append_right (by rw[List.length_take];omega),List.getElem?_drop,List.getElem?_replicate,if_pos (by rw[List.length_take];omega)]
   rfl
 have hprl:prow.length=n:=by
  rw[hprow,List.length_append,List.length_take,List.length_drop,List.length_replicate];omega
 simp only[gf]
 refine bB n (by omega) (fun j t df g=>df=[]/\St t [(1,.hptr 0 0 0 0),(2,.hptr 1 0 0 0),(3,.int .i64 (n:Int)),(4,.hptr p4 0 0 0),(5,w5),(6,r6),(7,.hptr p7 0 0 0)]/\∃cf,M0 n p4 q i5 p7 nv w5 c [u8v x.1,a,b,c,e] prow gr g cf/\∀k,k<j->cf (num k)=2)
  ⟨rfl,by simp[St,sx,hp4],_,hM,fun k hk=>by omega⟩ (by simp[sx]) (by decide) (by rintro j t df g v s (rfl | rfl | rfl)<;>simp[St,sx]) ?_ ?_ ?_
 ·rintro j t df g hj ⟨rfl,⟨h1,h2,h3,h4,h5,h6,h7,-⟩,hx⟩ h8
  simp only[sx,sy,SO.run,↓reduceIte,Nat.reduceEqDiff,h1,h2,h3,h4,h5,h6,h7,h8,St]
  exact hx
 ·clear hM
  rintro j t df g hj ⟨rfl,⟨h1,h2,h3,h4,h5,h6,h7,-⟩,cf,hM,hcf⟩ h8
  have hlt:j<pl.length:=by omega
  have hj1:=hnum1 j hj
  have hj2:=hnum2 j hj
  simp only[sx,sy,sf,SO.run,↓reduceIte,Nat.reduceEqDiff,Nat.reduceAdd,Nat.reduceLeDiff,h4,h6,h8,hM.h4,hr6r,hlt,hj1,hM.hN.rows,bS,hj2,ryn,ci,List.length_map,List.getElem?_map,Option.map_some,Option.isSome_some,Option.getD_some]
  refine bp (row:=dz cf (fun _=>.nils) (num j)) (row':=dz (aP cf (num j) 2) (fun _=>.nils) (num j)) (hM.same (by simp) (by simp;omega)).hN (bJ _ _ hj2) rfl rfl (by simp only[dz,aB];rfl) fun g2 x2 n2 f2=>?_
  rw[gS rfl (fun i hi=>by unfold dz;rw[ay _ _ hi])] at x2
  simp only[sx,sy] at n2 f2
  have hM2:=hM.node ho hn5 v1 x2 (by omega) f2
  simp only[sx,sy,sf,SO.run,↓reduceIte,Nat.reduceEqDiff,Nat.reduceAdd,Nat.reduceLeDiff]
  refine ⟨?_,?_⟩
  ·simp only[List.reverse_cons,List.reverse_nil,List.nil_append,List.cons_append]
   exact aX [false,false,false,false,false,false,false,false,true] [] (by simp[All2,au,aF,bw]) (by decide) (by simp)
  ·simp only[sx,sy,SO.run,↓reduceIte,Nat.reduceEqDiff,h1,h2,h3,h4,h5,h6,h7,h8,St]
   refine ⟨_,hM2.same (by simp) (by simp),fun k hk=>?_⟩
   by_cases e1:num k=num j
   ·rw[e1,aB]
   ·rw[ay _ _ e1]
    exact hcf k (by have:k≠j:=fun e2=>e1 (by rw[e2]);omega)
 ·clear hM
  rintro t df g ⟨rfl,⟨h1,h2,h3,h4,h5,h6,h7,-⟩,cf,hM,hcf⟩
  have hcf2:∀i,i<n->cf i=2:=fun i hi=>by obtain ⟨k,hk,rfl⟩:=hnum4 i hi;exact hcf k hk
  have rest:∀(t:T) (g:G) (cf:Nat->Int),St t [(1,.hptr 0 0 0 0),(2,.hptr 1 0 0 0),(3,.int .i64 (n:Int)),(4,.hptr p4 0 0 0),(5,w5),(6,r6),(7,.hptr p7 0 0 0)]->M0 n p4 q i5 p7 nv w5 c [u8v x.1,a,b,c,e] prow gr g cf->(∀i,i<n->cf i=2\/cf i=3) ->
    wp C0 (d+1) none cU (fnQ C0 (d+1) [SR.cell true 3 2] fun v g'=>∃P,GL P 0 g'.h v) t [] g:=by
   clear h1 h2 h3 h4 h5 h6 h7 hM hcf hcf2
   rintro t g cf ⟨h1,h2,h3,h4,h5,h6,h7,-⟩ hM hcf
   simp only[cU,sx,sy,SO.run,↓reduceIte,Nat.reduceEqDiff,Nat.reduceAdd,h3]
   have hnx:=hM.nx
   refine ji (b:=g.nx) (n:=n) (by simp[aZ];omega) (by simp[aZ];omega) (Nat.le_refl _) fun w9 ga hw9 n9 fr9 v9=>?_
   obtain ⟨em,hem⟩:∃em:ME,em=⟨n,p4,q,i5,p7,g.nx,g.nx+1,nv,w5,w9,c,gr,[u8v x.1,a,b,c,e],prow,x.2.2.2.1⟩:=⟨_,rfl⟩
   have e_n:em.n=n:=by rw[hem]
   have e_gr:em.gr=gr:=by rw[hem]
   have he:em.Ok:=by
    rw[hem]
    exact { ord:=⟨ho.1,ho.2.1,ho.2.2.1,ho.2.2.2,hnx,Nat.lt_succ_self _⟩,n1:=hn1,g1:=hg1,vn:=v1,v5:=hn5,v9:=v9,l7:=hcc }
   have hpr:MPr em:=by rw[hem];exact ⟨hprl,hrow5⟩
   have hN:MN em r6 pl num:=by rw[hem];exact ⟨hr6,hnum1,hnum2,hnum3,hnum4⟩
   have hI:MI em ga (fun _=>.nils) (fun _=>[]) cf (List.replicate em.n false) 0:=by
    rw[hem]
    exact { h0:=by rw[fr9 0 (by omega),hM.h0],h1:=by rw[fr9 1 (by omega),hM.h1],h4:=by show ga.h.get p4=_;rw[fr9 p4 (by omega),hM.h4]
            h5:=(hM.h5.fr (by omega) fun i hi=>fr9 i (hM.h5.lt hi).2).lower (Nat.zero_le _),hN:=(hM.hN.fr (by omega) fun i hi=>fr9 i (hM.hN.lt hi).2).lower (Nat.zero_le _)
            h7:=⟨0,Int.le_refl _,Int.le_refl _,by show ga.h.get p7=_;rw[fr9 p7 (by omega),hM.h7]⟩
            h9:=by rw[List.map_replicate];exact hw9.lower (Nat.zero_le _)
            fam:=⟨fun k _=>.inl ⟨rfl,rfl⟩,fun k l _ _ _ id h=>by cases h⟩,nx:=by show g.nx+1<=ga.nx;omega }
   have hD:MD em (fun _=>[]) [] (fun _=>[]) (fun _=>[]) (fun _=>[]):=⟨trivial,fun _ _=>rfl,fun _ _=>rfl,fun _ _=>rfl⟩
   simp only[sx,sy,SO.run,↓reduceIte,Nat.reduceEqDiff,Nat.reduceAdd]
   refine Ln (r6:=r6) (Nat.succ_pos d) he hpr (by simp[MSt,St,sx,hem,h1,h2,h3,h4,h5,h6,h7]) (by simp[sx]) hI hD (by rw[e_n];exact hcf) ?_
   clear hI hD h1 h2 h3 h4 h5 h6 h7
   intro t g V W ow R N ht hI hD hF hol hon hR4 hN1
   obtain ⟨h1,h2,h3,h4,h5,h6,h7,h9,-⟩:=ht
   simp only[fy,sx,sy,SO.run,↓reduceIte,Nat.reduceEqDiff,Nat.reduceAdd]
   refine Lk (r6:=r6) (us:=x.2.2.1) (Nat.succ_pos d) he (g0:=u8v x.1) (x0:=a) (b1:=b) (c0:=c) (e0:=e) (by rw[hem]) hb (by simp[MSt,St,sx,h1,h2,h3,h4,h5,h6,h7,h9]) (by simp[sx]) hI hD hF hon hR4 hN1 ?_
   clear hI hD hF hon h1 h2 h3 h4 h5 h6 h7 h9 hN1
   intro t g V W R N ht hI hD hF hon hR6 hN3
   obtain ⟨h1,h2,h3,h4,h5,h6,h7,h9,-⟩:=ht
   simp only[fH,sx,sy,SO.run,↓reduceIte,Nat.reduceEqDiff,Nat.reduceAdd]
   refine Lc (r6:=r6) (Nat.succ_pos d) he hpr hN (by simp[MSt,St,sx,h1,h2,h3,h4,h5,h6,h7,h9]) (by simp[sx]) hI hD hF hol hon hR6 hN3 ?_
   clear hI hD h1 h2 h3 h4 h5 h6 h7 h9
   intro t g V W F O ht hI hD hnd
   obtain ⟨h1,h2,h3,h4,h5,h6,h7,h9,-⟩:=ht
   have hA:=hI.agg he hD (by omega) fun i hi=>by
    obtain ⟨k,hk,rfl⟩:=hN.sur i hi
    refine ⟨by have:=(hnd k hk).len;omega,by have:=hN3 (num k);omega,?_⟩
    rw[(hnd k hk).outs]
    refine Nat.le_trans o8 ?_
    have hb:=pN hF (hnd k hk).places (hF.inc _ hi)
    have:=bD (l:=szs cf R (F (num k)) (N (num k))) fun y hy=>by have:=hb y hy;omega
    have hl4:(szs cf R (F (num k)) (N (num k))).length<=7:=by have:=(hnd k hk).len;have:=hN3 (num k);simp[szs];omega
    have:=ch hl4
    have:(4:Int) ^ 7=16384:=by decide
    omega
   have hbb:=hI.nx
   simp only[fJ,sx,sy,SO.run,↓reduceIte,Nat.reduceEqDiff,Nat.reduceAdd,Nat.reduceLeDiff,h2,h4,hI.h4,hI.h1]
   refine ⟨fun i=>1<i,_,⟨em,cf,R,F,N,O,num,rfl,he.n1,he.g1,hF,hR6,hN3,hN.lt,hN.inj,hN.sur,hnd⟩,?_⟩
   obtain ⟨cs,hcs,hA⟩:=hA
   exact ⟨cs,hcs,Rp.mono hA (fun i hi=>⟨hi,by rw[aq _ _ _ (by omega)]⟩) (Nat.le_refl _)⟩
  obtain ⟨y,oa,hy,hoa⟩:=hrow5 0 (by omega)
  have hjp:0<prow.length:=by omega
  have z0:=hnum1 0 (by omega)
  have z1:=hnum2 0 (by omega)
  have hlt:0<pl.length:=by omega
  have ix5:∀g':G,(ah g'.h 4 w5).isSome=true->0<((ah g'.h 4 w5).getD []).length->yy 4 w5 (.int .i64 0) g'=.val (ec 4 w5 0 0):=fun g' q1 q2=>vA (i:=0) q1 q2
  have ix6:∀g':G,(ah g'.h 1 r6).isSome=true->0<((ah g'.h 1 r6).getD []).length->yy 1 r6 (.int .i64 0) g'=.val (ec 1 r6 0 0):=fun g' q1 q2=>vA (i:=0) q1 q2
  simp only[fE,sx,sy,SO.run,↓reduceIte,Nat.reduceEqDiff,Nat.reduceAdd,h5,ix5,hM.h5.rows,hjp,hy,ry5,u8v,Option.isSome_some,Option.getD_some,bC .u8 (show (0:Int)<=(y.1.toNat:Int) by omega) (show (0:Int)<3 by decide)]
  refine aw (fun hb=>?_) (fun hb=>?_)
  ·simp only[sx,sy,sf,SO.run,↓reduceIte,Nat.reduceEqDiff,Nat.reduceAdd,Nat.reduceLeDiff,h4,h6,ix6,hM.h4,hr6r,hlt,z0,hM.hN.rows,bS,z1,ryn,ci,List.length_map,List.getElem?_map,Option.map_some,Option.isSome_some,Option.getD_some]
   refine bp (row:=dz cf (fun _=>.nils) (num 0)) (row':=dz (aP cf (num 0) 3) (fun _=>.nils) (num 0)) (hM.same (by simp) (by simp;omega)).hN (bJ _ _ z1) rfl rfl (by simp only[dz,aB];rfl) fun g2 x2 n2 f2=>?_
   rw[gS rfl (fun i hi=>by unfold dz;rw[ay _ _ hi])] at x2
   simp only[sx,sy] at n2 f2
   have hM2:=hM.node ho hn5 v1 x2 (by omega) f2
   simp only[sx,sy,sf,SO.run,↓reduceIte,Nat.reduceEqDiff,Nat.reduceAdd,Nat.reduceLeDiff]
   refine ⟨?_,?_⟩
   ·simp only[List.reverse_cons,List.reverse_nil,List.nil_append,List.cons_append]
    exact aX [false,false,false,false,false,false,false,true] [] (by simp[All2,au,aF,bw]) (by decide) (by simp)
   ·refine rest _ _ _ (by simp[St,sx,h1,h2,h3,h4,h5,h6,h7]) (hM2.same (by simp) (by simp)) fun i hi=>?_
    by_cases e1:i=num 0
    ·subst e1;rw[aB];exact .inr rfl
    ·rw[ay _ _ e1];exact .inl (hcf2 i hi)
  ·simp only[sx]
   exact rest _ _ cf (by simp[St,sx,h1,h2,h3,h4,h5,h6,h7]) hM fun i hi=>.inl (hcf2 i hi)
end
end Hx
end
section
namespace Hx
open Go
noncomputable section
def eid:AV->Option Nat
 | .hsl id _ _ _ _=>some id
 | .hptr id _ _ _=>some id
 | _=>none
def Bx (g:G)(b:Nat)(v:AV)(row:List AV):Prop:=∃id,b<=id/\id<g.nx/\v=.hptr id 0 0 0/\g.h.get id=.cells row.length [row] 0 false false
inductive En where
 | sl (sz:Nat) (rows:List (List AV))
 | bx (row:List AV)
def En.ok (g:G)(b:Nat)(v:AV):En->Prop
 | .sl sz rows=>Own g b v sz rows
 | .bx row=>Bx g b v row
theorem jj {g:G}{b:Nat}{v:AV}{sz:Nat}{rows:List (List AV)}(h:Own g b v sz rows):eid v=vid v:=by
 rcases h with ⟨rfl,-⟩ | ⟨id,ep,lo,h1,h2,rfl,h3⟩<;>rfl
theorem En.lt {g:G}{b:Nat}{v:AV}{e:En}(h:e.ok g b v){i:Nat}(hi:eid v=some i):b<=i/\i<g.nx:=by
 cases e with
 | sl sz rows =>
  have h:Own g b v sz rows:=h
  rw[jj h] at hi;exact h.lt hi
 | bx row =>
  obtain ⟨id,h1,h2,rfl,h3⟩:=h
  injection hi with hi;subst hi;exact ⟨h1,h2⟩
theorem En.fr {g g':G}{b:Nat}{v:AV}{e:En}(h:e.ok g b v)(hn:g.nx<=g'.nx)(hf:∀i,eid v=some i->g'.h.get i=g.h.get i):e.ok g' b v:=by
 cases e with
 | sl sz rows =>
  have h:Own g b v sz rows:=h
  exact h.fr hn fun i hi=>hf i (by rw[jj h];exact hi)
 | bx row =>
  obtain ⟨id,h1,h2,rfl,h3⟩:=h
  exact ⟨id,h1,by omega,rfl,by rw[hf id rfl,h3]⟩
section
variable {κ:Type}
structure Hp (g:G) (b:Nat) (L:κ->Prop) (V:κ->AV) (E:κ->En):Prop where
 ok:∀k,L k->(E k).ok g b (V k)
 sep:∀k l,L k->L l->k≠l->∀id,eid (V k)=some id->eid (V l)≠some id
 nx:b<=g.nx
variable {g g':G}{b:Nat}{L L':κ->Prop}{V:κ->AV}{E:κ->En}{k:κ}
theorem Hp.sub (h:Hp g b L V E)(hl:∀k,L' k->L k):Hp g b L' V E:=⟨fun k hk=>h.ok k (hl k hk),fun k l hk hl2=>h.sep k l (hl k hk) (hl l hl2),h.nx⟩
theorem Hp.step (h:Hp g b L V E)(hn:g.nx<=g'.nx)(hf:∀i,b<=i->i<g.nx->g'.h.get i=g.h.get i):Hp g' b L V E :=
 ⟨fun k hk=>En.fr (h.ok k hk) hn fun i hi=>hf i (En.lt (h.ok k hk) hi).1 (En.lt (h.ok k hk) hi).2,h.sep,Nat.le_trans h.nx hn⟩
theorem Hp.same (h:Hp g b L V E)(hf:g'.h=g.h)(hn:g.nx<=g'.nx):Hp g' b L V E:=h.step hn fun i _ _=>by rw[hf]
theorem Hp.own (h:Hp g b L V E)(hk:L k){sz:Nat}{rows:List (List AV)}(he:E k=.sl sz rows):Own g b (V k) sz rows:=by
 have:=h.ok k hk;rw[he] at this;exact this
theorem Hp.box (h:Hp g b L V E)(hk:L k){row:List AV}(he:E k=.bx row):Bx g b (V k) row:=by
 have:=h.ok k hk;rw[he] at this;exact this
end
section
variable {κ:Type} [DecidableEq κ]
def ups {α:Type}(f:κ->α)(k:κ)(x:α):κ->α:=fun j=>if j=k then x else f j
theorem ax {α:Type}(f:κ->α)(k:κ)(x:α):ups f k x k=x:=if_pos rfl
theorem ae {α:Type}(f:κ->α){k j:κ}(x:α)(h:j≠k):ups f k x j=f j:=if_neg h
theorem Gf {α:Type}{f:κ->α}{k:κ}{x:α}(h:f k=x):ups f k x=f:=by
 funext j;by_cases e:j=k
 ·subst e;rw[ax,h]
 ·exact ae _ _ e
variable {g g':G}{b:Nat}{L L':κ->Prop}{V:κ->AV}{E:κ->En}{k:κ}
theorem Hp.set (h:Hp g b L V E){v':AV}{e':En}(hk:L k)(ho:e'.ok g' b v')(hn:g.nx<=g'.nx)(hf:∀i,b<=i->i<g.nx->eid (V k)≠some i->g'.h.get i=g.h.get i)
  (hv:eid v'=eid (V k)\/∃i,eid v'=some i/\g.nx<=i):Hp g' b L (ups V k v') (ups E k e'):=by
 refine ⟨fun j hj=>?_,fun j l hj hl hne id e1 e2=>?_,Nat.le_trans h.nx hn⟩
 ·by_cases e:j=k
  ·subst e;rw[ax,ax];exact ho
  ·rw[ae _ _ e,ae _ _ e]
   exact En.fr (h.ok j hj) hn fun i hi=>hf i (En.lt (h.ok j hj) hi).1 (En.lt (h.ok j hj) hi).2 fun e2=>h.sep j k hj hk e i hi e2
 ·have key:∀j,L j->j≠k->∀id,eid (V j)=some id->eid v'≠some id:=fun j hj hne id e1 e2=>by
   rcases hv with hv | ⟨i,hv,hi⟩
   ·exact h.sep j k hj hk hne id e1 (hv ▸ e2)
   ·rw[hv] at e2;injection e2 with e2;have:=(En.lt (h.ok j hj) e1).2;omega
  by_cases a:j=k
  ·subst a
   rw[ax] at e1
   rw[ae _ _ (Ne.symm hne)] at e2
   exact key l hl (Ne.symm hne) id e2 e1
  ·rw[ae _ _ a] at e1
   by_cases c:l=k
   ·subst c;rw[ax] at e2;exact key j hj a id e1 e2
   ·rw[ae _ _ c] at e2;exact h.sep j l hj hl hne id e1 e2
theorem Hp.add (h:Hp g b L V E){v':AV}{e':En}(hk:¬L k)(ho:e'.ok g' b v')(hn:g.nx<=g'.nx)(hf:∀i,b<=i->i<g.nx->g'.h.get i=g.h.get i)
  (hv:∀i,eid v'=some i->g.nx<=i) (hl:∀j,L' j->L j\/j=k):Hp g' b L' (ups V k v') (ups E k e'):=by
 refine ⟨fun j hj=>?_,fun j l hj hl2 hne id e1 e2=>?_,Nat.le_trans h.nx hn⟩
 ·rcases hl j hj with hj | rfl
  ·have e:j≠k:=fun e=>hk (e ▸ hj)
   rw[ae _ _ e,ae _ _ e]
   exact En.fr (h.ok j hj) hn fun i hi=>hf i (En.lt (h.ok j hj) hi).1 (En.lt (h.ok j hj) hi).2
  ·rw[ax,ax];exact ho
 ·have key:∀j,L j->∀id,eid (V j)=some id->eid v'≠some id:=fun j hj id e1 e2=>by
   have:=hv id e2;have:=(En.lt (h.ok j hj) e1).2;omega
  rcases hl j hj with hj | rfl
  ·have e:j≠k:=fun e=>hk (e ▸ hj)
   rw[ae _ _ e] at e1
   rcases hl l hl2 with hl2 | rfl
   ·have e':l≠k:=fun e=>hk (e ▸ hl2)
    rw[ae _ _ e'] at e2
    exact h.sep j l hj hl2 hne id e1 e2
   ·rw[ax] at e2;exact key j hj id e1 e2
  ·rw[ax] at e1
   rcases hl l hl2 with hl2 | rfl
   ·have e':l≠j:=fun e=>hne e.symm
    rw[ae _ _ e'] at e2
    exact key l hl2 id e2 e1
   ·exact hne rfl
theorem Own.new {g:G}{b:Nat}(hb:b<=g.nx)(sz:Nat)(rows:List (List AV)):Own (g.new (.cells sz rows 0 false false)) b (.hsl g.nx 0 0 rows.length none) sz rows :=
 .inr ⟨g.nx,0,false,hb,by simp,rfl,by simp[bi]⟩
theorem Hp.app (h:Hp g b L V E)(hk:L k){sz bytes:Nat}{rows new:List (List AV)}(he:E k=.sl sz rows){x:AV}{K:AV->G->Prop}{D:ADf->Prop}(hx:ah g.h sz x=some new)
  (hr:(rows.length+new.length)*bytes<=aZ)
  (kk:∀v' g',Hp g' b L (ups V k v') (ups E k (.sl sz (rows++new)))->g.nx<=g'.nx->(∀i,i<b->g'.h.get i=g.h.get i)->(∀i,i<g.nx->eid (V k)≠some i->g'.h.get i=g.h.get i)->(∀i∈g'.lg,i∈g.lg\/b<=i)->v'.cells=[v']->v'.isTup=false->K v' g') :
  (ic sz bytes (V k) x g).sat K g D:=by
 have ho:=h.own hk he
 refine aJ ho hx h.nx hr fun v' g' hv' hn hf hvid hlg=>?_
 refine kk v' g' (h.set hk (e':=.sl sz (rows++new)) hv' hn (fun i _ hi hne=>hf i hi (by rw[<-jj ho];exact hne)) ?_) hn (fun i hi=>hf i (Nat.lt_of_lt_of_le hi h.nx) fun e=>by have:=(ho.lt e).1;omega)
  (fun i hi hne=>hf i hi (by rw[<-jj ho];exact hne)) hlg hv'.cell.1 hv'.cell.2
 rw[jj hv',jj ho];exact hvid
theorem Hp.put (h:Hp g b L V E)(hk:L k){sz n i off:Nat}{rows:List (List AV)}{row row':List AV}(he:E k=.sl sz rows){x:AV}{K:AV->G->Prop}{D:ADf->Prop}(hr:rows[i]?=some row)
  (hl:x.cells.length=n) (ht:x.isTup=false) (hp:b7 row off x.cells=some row')
  (kk:∀g',Hp g' b L V (ups E k (.sl sz (rows.set i row')))->g'.nx=g.nx->(∀i,i<b->g'.h.get i=g.h.get i)->(∀i,eid (V k)≠some i->g'.h.get i=g.h.get i)->K .undef g'):(nA n (ec sz (V k) i off) x g).sat K g D:=by
 have ho:=h.own hk he
 refine bp ho hr hl ht hp fun g' hv' hn hf=>?_
 have:=h.set hk (e':=.sl sz (rows.set i row')) hv' (by omega) (fun i _ hi hne=>hf i (by rw[<-jj ho];exact hne)) (.inl rfl)
 rw[Gf (f:=V) rfl] at this
 exact kk g' this hn (fun i hi=>hf i fun e=>by have:=(ho.lt e).1;omega) fun i hne=>hf i (by rw[<-jj ho];exact hne)
theorem Hp.putb (h:Hp g b L V E)(hk:L k){row row':List AV}(he:E k=.bx row){id:Nat}(hv:V k=.hptr id 0 0 0)(hl:row'.length=row.length):Hp (g.put id (.cells row.length [row'] 0 false false)) b L V (ups E k (.bx row')):=by
 obtain ⟨id',h1,h2,h3,h4⟩:=h.box hk he
 rw[hv] at h3;injection h3 with h3;subst h3
 have:=h.set (g':=g.put id (.cells row.length [row'] 0 false false)) hk (e':=.bx row') (v':=.hptr id 0 0 0) ⟨id,h1,by simpa using h2,rfl,by rw[hl];simp[bi]⟩ (by simp) (fun i _ hi hne=>by
  rw[G.put_h,aq _ _ _ (fun e=>hne (by rw[hv,e];rfl))]) (.inl (by rw[hv]))
 rw[Gf (f:=V) hv] at this
 exact this
end
end
end Hx
end
section
namespace Hx
open Go
noncomputable section
theorem dT {C:Cfg}{d:Nat}{rd:Option Nat}{l:List SI}{b:SC}{Q:QT}{t:T}{df:List ADf}{g:G}{P:PT}(h1:wpO C d rd l P t df g)(h2:∀t df g,P t df g->wp C d rd b Q t df g):wp C d rd (.seq (.ops l) b) Q t df g:=by
 rw[oO]
 have:wp C d rd (.ops l) (fun e t df g=>e=.norm/\P t df g) t df g:=by rw[Ah];simpa using h1
 refine cM _ this ?_
 rintro e t df g ⟨rfl,h⟩
 exact h2 t df g h
structure Bnd (K:Nat) (m:Causal):Prop where
 r:m.roots.length<=K
 rr:∀x∈m.roots,x.length<=K
 n:m.nodes.length<=K
 f:∀x∈m.nodes,x.frm.length<=K/\x.noise.length<=K/\x.out.length<=K
abbrev Ky:Type:=Nat×Nat
def LB (R n:Nat):Ky->Prop:=fun k=>(k.1=0/\k.2<R)\/(1<=k.1/\k.1<=3/\k.2<n)\/k=(4,0)\/k=(4,1)
structure BD (K R n:Nat) (V:Ky->AV) (E:Ky->En) (Rt:Nat->List Int) (c:Nat->Int) (F:Nat->Nat->List Int):Prop where
 r:∀i,i<R->E (0,i)=.sl 1 ((Rt i).map ci)/\(Rt i).length<=K
 f:∀q i,1<=q->q<=3->i<n->E (q,i)=.sl 1 ((F q i).map ci)/\(F q i).length<=K
 rs:E (4,0)=.sl 1 ((List.range R).map fun i=>[V (0,i)])
 ns:E (4,1)=.sl 4 ((List.range n).map fun i=>[.int .i64 (c i),V (1,i),V (2,i),V (3,i)])
def BB (g:G)(brow:List AV)(gr:Int)(a b:AV):Prop:=g.h.get 0=.cells 4 [brow] 0 false false/\g.h.get 1=.cells 3 [[.int .i64 gr,a,b]] 0 false false/\g.h.get 2=.cells 3 [[.int .i64 0,.nils,.nils]] 0 false false
theorem BB.fr {g g':G}{brow:List AV}{gr:Int}{a b:AV}(h:BB g brow gr a b)(hf:∀i,i<3->g'.h.get i=g.h.get i):BB g' brow gr a b :=
 ⟨by rw[hf 0 (by omega),h.1],by rw[hf 1 (by omega),h.2.1],by rw[hf 2 (by omega),h.2.2]⟩
theorem DK {R n:Nat}{k:Ky}(h:LB (R+1) n k):LB R n k\/k=(0,R):=by
 rcases h with ⟨h1,h2⟩ | h | h
 ·by_cases e:k.2=R
  ·exact .inr (Prod.ext h1 e)
  ·exact .inl (.inl ⟨h1,by omega⟩)
 ·exact .inl (.inr (.inl h))
 ·exact .inl (.inr (.inr h))
theorem KS {d K:Nat}{m:Causal}{brow:List AV}{a b:AV}{Q:QT}(hR:SlR NoP 0 .nil m.roots a)(hK:K<=1000000)(hb:Bnd K m){t:T}{g:G}{V:Ky->AV}{E:Ky->En}
  (ht:St t [(2,.hptr 0 0 0 0),(3,.hptr 1 0 0 0),(4,.hptr 2 0 0 0)]) (h5:tat t 5=V (4,0)) (h6:tat t 6=.int .i64 0) (hH:Hp g 3 (LB 0 0) V E) (hB:BB g brow m.grain a b) (hD:BD K 0 0 V E (fun _=>[]) (fun _=>0) (fun _ _=>[]))
  (fin:∀t g V E Rt,St t [(2,.hptr 0 0 0 0),(3,.hptr 1 0 0 0),(4,.hptr 2 0 0 0)]->tat t 5=V (4,0)->Hp g 3 (LB m.roots.length 0) V E->BB g brow m.grain a b->BD K m.roots.length 0 V E Rt (fun _=>0) (fun _ _=>[])->V (4,1)=.nils->Q (.exit 0) t [] g) (hV1:V (4,1)=.nils) :
  wpL (wp C0 d none fk) Q t [] g:=by
 obtain ⟨rows,r1,r2,r3,r4⟩:=hR.all
 have r1:∀h',ah h' 1 a=some rows:=r1
 have hbr:=hb.r
 simp only[fk]
 refine bB m.roots.length (by omega) (fun j t df g=>df=[]/\St t [(2,.hptr 0 0 0 0),(3,.hptr 1 0 0 0),(4,.hptr 2 0 0 0)]/\∃V E Rt,tat t 5=V (4,0)/\Hp g 3 (LB j 0) V E/\BB g brow m.grain a b/\BD K j 0 V E Rt (fun _=>0) (fun _ _=>[])/\V (4,1)=.nils)
  ⟨rfl,ht,V,E,_,h5,hH,hB,hD,hV1⟩ h6 (by decide) (by rintro j t df g v s (rfl | rfl | rfl)<;>simp[St,sx]) ?_ ?_ ?_
 ·rintro j t df g hj ⟨rfl,⟨h2,h3,h4,-⟩,V,E,Rt,h5,hH,hB,hD⟩ h6
  simp only[sx,sy,SO.run,↓reduceIte,Nat.reduceEqDiff,h2,h3,h4,h5,h6,hB.2.1,hR.len,St]
  exact ⟨V,E,Rt,rfl,hH,hB,hD⟩
 ·clear ht h5 h6 hH hB hD hV1
  rintro j t df g hj ⟨rfl,⟨h2,h3,h4,-⟩,V,E,Rt,h5,hH,hB,hD,hV1⟩ h6
  obtain ⟨ws,hx,htk,hm⟩:=af hj
  obtain ⟨row,q1,q2⟩:=r3 j ws hx
  obtain ⟨u,rfl,hu⟩:=dk.1 q2
  have hlt:j<rows.length:=by omega
  have hwl:=hb.rr ws hm
  simp only[sx,sy,SO.run,↓reduceIte,Nat.reduceEqDiff,h3,h5,h6,hB.2.1,r1,hlt,q1,Option.isSome_some,Option.getD_some]
  refine aJ (b:=3) (rows:=[]) (new:=ws.map ci) (.inl ⟨rfl,rfl⟩) (hu.tree (h':=g.h) (Nat.le_refl _)).ints hH.nx (by simp[aZ];omega) fun v2 g2 hv2 n2 fr2 vid2 lg2=>?_
  have hH2:=hH.add (k:=(0,j)) (L':=LB (j+1) 0) (v':=v2) (e':=.sl 1 (ws.map ci)) (by simp[LB]) hv2 n2 (fun i _ hi=>fr2 i hi (by simp[vid])) (fun i hi=>by
   rw[jj hv2] at hi
   rcases vid2 with h | ⟨i',h,hi'⟩
   ·rw[h] at hi;cases hi
   ·rw[h] at hi;injection hi with hi;omega) (fun k hk=>DK hk)
  have hB2:=hB.fr (g':=g2) (fun i hi=>fr2 i (by have:=hH.nx;omega) (by simp[vid]))
  simp only[sx,sy,SO.run,↓reduceIte,Nat.reduceEqDiff,hv2.cell.1,hv2.cell.2]
  have hH3:=hH2.step (g':=g2.new (.cells 1 [[v2]] 0 false false)) (by simp) (fun i _ hi=>by rw[G.new_h,aq _ _ _ (by omega)])
  have e40:ups V (0,j) v2 (4,0)=V (4,0):=ae _ _ (by simp)
  rw[<-e40]
  refine hH3.app (k:=(4,0)) (by simp[LB]) (by rw[ae _ _ (by simp)];exact hD.rs) (new:=[[v2]]) (by simp[sx,sy]) (by simp[aZ];omega) fun v3 g3 hH4 n3 fr3 _ lg3 vc3 vt3=>?_
  simp only[sx,sy] at n3 fr3
  simp only[sx,sy,SO.run,↓reduceIte,Nat.reduceEqDiff,h2,h3,h4,h6,St]
  refine ⟨_,_,ups Rt j ws,(ax _ _ _).symm,hH4,hB2.fr (fun i hi=>?_),⟨fun i hi=>?_,fun q i _ _ hi=>by omega,?_,?_⟩,by rw[ae _ _ (by simp),ae _ _ (by simp),hV1]⟩
  ·have:=hH2.nx
   rw[fr3 i hi,if_neg (by omega)]
  ·rw[ae _ _ (by simp)]
   by_cases e:i=j
   ·subst e;rw[ax,ax];exact ⟨rfl,hwl⟩
   ·rw[ae _ _ (by simpa using e),ae _ _ e];exact hD.r i (by omega)
  ·rw[ax,List.range_succ,List.map_append]
   congr 2
   ·refine List.map_congr_left fun i hi=>?_
    have:=List.mem_range.1 hi
    rw[ae _ _ (by simp),ae _ _ (by simp;omega)]
   ·simp[ae,ax]
  ·rw[ae _ _ (by simp),ae _ _ (by simp)];exact hD.ns
 ·rintro t df g ⟨rfl,ht,V,E,Rt,h5,hH,hB,hD,hV1⟩
  exact fin t g V E Rt ht h5 hH hB hD hV1
def LX (R j:Nat):Ky->Prop:=fun k=>LB R j k\/k=(5,0)\/k=(1,j)\/k=(2,j)\/k=(3,j)
theorem eG {R j:Nat}{k:Ky}(h:LB R j k)(q:Nat)(h1:1<=q)(h2:q<=3):k≠(q,j):=by
 rintro rfl
 rcases h with ⟨h,-⟩ | ⟨-,-,h⟩ | h | h
 ·simp at h;omega
 ·simp at h
 ·simp at h;omega
 ·simp at h;omega
theorem zS {R j:Nat}{k:Ky}(h:LB R j k):k≠(5,0):=by
 rintro rfl
 rcases h with ⟨h,-⟩ | ⟨-,h,-⟩ | h | h<;>simp at h
structure NB (R j p:Nat) (g:G) (brow:List AV) (gr:Int) (a b:AV) (V0:Ky->AV) (E0:Ky->En) (card:Int) (f1 f2 f3:List Int) (V:Ky->AV) (E:Ky->En) (K:Nat):Prop where
 hp:Hp g 3 (LX R j) V E
 bb:BB g brow gr a b
 vb:V (5,0)=.hptr p 0 0 0
 bx:E (5,0)=.bx [.int .i64 card,V (1,j),V (2,j),V (3,j)]
 e1:E (1,j)=.sl 1 (f1.map ci)
 e2:E (2,j)=.sl 1 (f2.map ci)
 e3:E (3,j)=.sl 1 (f3.map ci)
 old:∀k,LB R j k->V k=V0 k/\E k=E0 k
 len:f1.length<=K/\f2.length<=K/\f3.length<=K
theorem KT {d R j p K k:Nat}{brow:List AV}{gr:Int}{a b w5 w8:AV}{rows:List (List AV)}{Q:QT}{x:Mech}{fa fb fc:AV}{V0 V1:Ky->AV}{E0 E1:Ky->En}{f2 f3:List Int}(hK:K<=1000000)
  (r1:∀h',ah h' 4 b=some rows) (z1:rows[j]?=some [.int .i64 x.card,fa,fb,fc]) (hry:kG b=true) (hfa:SlR NoP k .nil x.frm fa) (hxl:x.frm.length<=K) {t:T} {g:G}
  (ht:St t [(2,.hptr 0 0 0 0),(3,.hptr 1 0 0 0),(4,.hptr 2 0 0 0),(5,w5),(8,w8),(9,.int .i64 (j:Int)),(10,.hptr p 0 0 0)]) (hN:NB R j p g brow gr a b V0 E0 x.card [] f2 f3 V1 E1 K)
  (kk:∀t g V E,St t [(2,.hptr 0 0 0 0),(3,.hptr 1 0 0 0),(4,.hptr 2 0 0 0),(5,w5),(8,w8),(9,.int .i64 (j:Int)),(10,.hptr p 0 0 0)]->NB R j p g brow gr a b V0 E0 x.card (x.frm) (f2) (f3) V E K->Q .norm t [] g) :
  wp C0 d none (.feet [0,1,0,4,0,28,60,124,255,511,1023] [o 44 (.fad 1 (.t 10)),o 45 (.load false 1 (.t 44)),o 46 (.fad 2 (.t 3)),o 47 (.load false 1 (.t 46)),o 48 (.mv (.t 9)),o 49 (.ixs 4 (.t 47) (.t 48)),o 50 (.fad 1 (.t 49)),o 51 (.load false 1 (.t 50)),o 52 (.app 1 8 (.t 45) (.t 51)),o 53 (.fad 1 (.t 10)),oz (.store 1 (.t 53) (.t 52))]) Q t [] g:=by
 obtain ⟨h2,h3,h4,h5,h8,h9,h10,-⟩:=ht
 have hlt:j<rows.length:=(List.getElem?_eq_some_iff.1 z1).1
 obtain ⟨p',hp1,hp2,hp3,hgx⟩:=hN.hp.box (k:=(5,0)) (by simp[LX]) hN.bx
 rw[hN.vb] at hp3;injection hp3 with hp3;subst hp3
 have hgx:g.h.get p=.cells 4 [[.int .i64 x.card,V1 (1,j),V1 (2,j),V1 (3,j)]] 0 false false:=hgx
 have hnx:=hN.hp.nx
 have hlen:=hN.len
 simp only[sx,sy,sf,SO.run,↓reduceIte,Nat.reduceEqDiff,h3,h9,h10,hN.bb.2.1,r1,hlt,z1,hry,hgx,Option.isSome_some,Option.getD_some]
 refine (hN.hp.same (g':=_) (by simp) (by simp;omega)).app (k:=(1,j)) (by simp[LX]) (hN.e1) (new:=(x.frm).map ci) (by simpa using (hfa.tree (h':=g.h) (Nat.le_refl _)).ints) (by simp[aZ];omega) fun v1 ga hHa na fra fsa lga vca vta=>?_
 simp only[sy] at na fra fsa lga
 obtain ⟨p',hp1',hp2',hp3',hgx'⟩:=hHa.box (k:=(5,0)) (by simp[LX]) (by rw[ae _ _ (by simp)];exact hN.bx)
 rw[ae _ _ (by simp),hN.vb] at hp3';injection hp3' with hp3';subst hp3'
 have hgx':ga.h.get p=.cells 4 [[.int .i64 x.card,V1 (1,j),V1 (2,j),V1 (3,j)]] 0 false false:=hgx'
 simp only[sx,sy,sf,SO.run,↓reduceIte,Nat.reduceEqDiff,Nat.reduceAdd,Nat.reduceLeDiff,h10,hgx',vca,vta]
 refine ⟨?_,?_⟩
 ·simp only[List.reverse_cons,List.reverse_nil,List.nil_append,List.cons_append]
  exact aX [false,false,false,false,false,false,false,false,true,false,true] [] (by simp[All2,au,aF]) (by decide) (by simp)
 have hHb:=(hHa.same (g':=aI (dj (aI (dj ga []) []) []) []) (by simp) (by simp;omega)).putb (k:=(5,0)) (by simp[LX]) (row:=[.int .i64 x.card,V1 (1,j),V1 (2,j),V1 (3,j)]) (row':=[.int .i64 x.card,v1,V1 (2,j),V1 (3,j)]) (by rw[ae _ _ (by simp)];exact hN.bx) (by rw[ae _ _ (by simp)];exact hN.vb) rfl
 refine kk _ _ (ups V1 (1,j) v1) (ups (ups E1 (1,j) (En.sl 1 (List.map ci []++List.map ci x.frm))) (5,0) (En.bx [.int .i64 x.card,v1,V1 (2,j),V1 (3,j)])) (by simp[St,sx,h2,h3,h4,h9,h10,h5,h8]) ?_
 exact { hp:=hHb.same (by simp) (by simp),bb:=hN.bb.fr (fun i hi=>by simp[H.get_put];rw[if_neg (by omega),fra i hi]),vb:=by rw[ae _ _ (by simp)];exact hN.vb
         bx:=by rw[ax,ax,ae V1 (k:=(1,j)) (j:=(2,j)) _ (by simp),ae V1 (k:=(1,j)) (j:=(3,j)) _ (by simp)]
         e1:=by rw[ae _ _ (by simp),ax];rfl,e2:=by rw[ae _ _ (by simp),ae _ _ (by simp)];exact hN.e2,e3:=by rw[ae _ _ (by simp),ae _ _ (by simp)];exact hN.e3
         old:=fun k hk=>by rw[ae _ _ (eG hk 1 (by omega) (by omega)),ae _ _ (zS hk),ae _ _ (eG hk 1 (by omega) (by omega))];exact hN.old k hk
         len:=by have:=hN.len;omega }
theorem KR {d R j p K k:Nat}{brow:List AV}{gr:Int}{a b w5 w8:AV}{rows:List (List AV)}{Q:QT}{x:Mech}{fa fb fc:AV}{V0 V1:Ky->AV}{E0 E1:Ky->En}{f1 f3:List Int}(hK:K<=1000000)
  (r1:∀h',ah h' 4 b=some rows) (z1:rows[j]?=some [.int .i64 x.card,fa,fb,fc]) (hry:kG b=true) (hfb:SlR NoP k .nil x.noise fb) (hxl:x.noise.length<=K) {t:T} {g:G}
  (ht:St t [(2,.hptr 0 0 0 0),(3,.hptr 1 0 0 0),(4,.hptr 2 0 0 0),(5,w5),(8,w8),(9,.int .i64 (j:Int)),(10,.hptr p 0 0 0)]) (hN:NB R j p g brow gr a b V0 E0 x.card f1 [] f3 V1 E1 K)
  (kk:∀t g V E,St t [(2,.hptr 0 0 0 0),(3,.hptr 1 0 0 0),(4,.hptr 2 0 0 0),(5,w5),(8,w8),(9,.int .i64 (j:Int)),(10,.hptr p 0 0 0)]->NB R j p g brow gr a b V0 E0 x.card (f1) (x.noise) (f3) V E K->Q .norm t [] g) :
  wp C0 d none (.feet [0,1,0,4,0,28,60,124,255,511,1023] [o 54 (.fad 2 (.t 10)),o 55 (.load false 1 (.t 54)),o 56 (.fad 2 (.t 3)),o 57 (.load false 1 (.t 56)),o 58 (.mv (.t 9)),o 59 (.ixs 4 (.t 57) (.t 58)),o 60 (.fad 2 (.t 59)),o 61 (.load false 1 (.t 60)),o 62 (.app 1 8 (.t 55) (.t 61)),o 63 (.fad 2 (.t 10)),oz (.store 1 (.t 63) (.t 62))]) Q t [] g:=by
 obtain ⟨h2,h3,h4,h5,h8,h9,h10,-⟩:=ht
 have hlt:j<rows.length:=(List.getElem?_eq_some_iff.1 z1).1
 obtain ⟨p',hp1,hp2,hp3,hgx⟩:=hN.hp.box (k:=(5,0)) (by simp[LX]) hN.bx
 rw[hN.vb] at hp3;injection hp3 with hp3;subst hp3
 have hgx:g.h.get p=.cells 4 [[.int .i64 x.card,V1 (1,j),V1 (2,j),V1 (3,j)]] 0 false false:=hgx
 have hnx:=hN.hp.nx
 have hlen:=hN.len
 simp only[sx,sy,sf,SO.run,↓reduceIte,Nat.reduceEqDiff,h3,h9,h10,hN.bb.2.1,r1,hlt,z1,hry,hgx,Option.isSome_some,Option.getD_some]
 refine (hN.hp.same (g':=_) (by simp) (by simp;omega)).app (k:=(2,j)) (by simp[LX]) (hN.e2) (new:=(x.noise).map ci) (by simpa using (hfb.tree (h':=g.h) (Nat.le_refl _)).ints) (by simp[aZ];omega) fun v1 ga hHa na fra fsa lga vca vta=>?_
 simp only[sy] at na fra fsa lga
 obtain ⟨p',hp1',hp2',hp3',hgx'⟩:=hHa.box (k:=(5,0)) (by simp[LX]) (by rw[ae _ _ (by simp)];exact hN.bx)
 rw[ae _ _ (by simp),hN.vb] at hp3';injection hp3' with hp3';subst hp3'
 have hgx':ga.h.get p=.cells 4 [[.int .i64 x.card,V1 (1,j),V1 (2,j),V1 (3,j)]] 0 false false:=hgx'
 simp only[sx,sy,sf,SO.run,↓reduceIte,Nat.reduceEqDiff,Nat.reduceAdd,Nat.reduceLeDiff,h10,hgx',vca,vta]
 refine ⟨?_,?_⟩
 ·simp only[List.reverse_cons,List.reverse_nil,List.nil_append,List.cons_append]
  exact aX [false,false,false,false,false,false,false,false,true,false,true] [] (by simp[All2,au,aF]) (by decide) (by simp)
 have hHb:=(hHa.same (g':=aI (dj (aI (dj ga []) []) []) []) (by simp) (by simp;omega)).putb (k:=(5,0)) (by simp[LX]) (row:=[.int .i64 x.card,V1 (1,j),V1 (2,j),V1 (3,j)]) (row':=[.int .i64 x.card,V1 (1,j),v1,V1 (3,j)]) (by rw[ae _ _ (by simp)];exact hN.bx) (by rw[ae _ _ (by simp)];exact hN.vb) rfl
 refine kk _ _ (ups V1 (2,j) v1) (ups (ups E1 (2,j) (En.sl 1 (List.map ci []++List.map ci x.noise))) (5,0) (En.bx [.int .i64 x.card,V1 (1,j),v1,V1 (3,j)])) (by simp[St,sx,h2,h3,h4,h9,h10,h5,h8]) ?_
 exact { hp:=hHb.same (by simp) (by simp),bb:=hN.bb.fr (fun i hi=>by simp[H.get_put];rw[if_neg (by omega),fra i hi]),vb:=by rw[ae _ _ (by simp)];exact hN.vb
         bx:=by rw[ax,ax,ae V1 (k:=(2,j)) (j:=(1,j)) _ (by simp),ae V1 (k:=(2,j)) (j:=(3,j)) _ (by simp)]
         e2:=by rw[ae _ _ (by simp),ax];rfl,e1:=by rw[ae _ _ (by simp),ae _ _ (by simp)];exact hN.e1,e3:=by rw[ae _ _ (by simp),ae _ _ (by simp)];exact hN.e3
         old:=fun k hk=>by rw[ae _ _ (eG hk 2 (by omega) (by omega)),ae _ _ (zS hk),ae _ _ (eG hk 2 (by omega) (by omega))];exact hN.old k hk
         len:=by have:=hN.len;omega }
theorem Le {d R j p K k:Nat}{brow:List AV}{gr:Int}{a b w5 w8:AV}{rows:List (List AV)}{Q:QT}{x:Mech}{fa fb fc:AV}{V0 V1:Ky->AV}{E0 E1:Ky->En}{f1 f2:List Int}(hK:K<=1000000)
  (r1:∀h',ah h' 4 b=some rows) (z1:rows[j]?=some [.int .i64 x.card,fa,fb,fc]) (hry:kG b=true) (hfc:SlR NoP k .nil x.out fc) (hxl:x.out.length<=K) {t:T} {g:G}
  (ht:St t [(2,.hptr 0 0 0 0),(3,.hptr 1 0 0 0),(4,.hptr 2 0 0 0),(5,w5),(8,w8),(9,.int .i64 (j:Int)),(10,.hptr p 0 0 0)]) (hN:NB R j p g brow gr a b V0 E0 x.card f1 f2 [] V1 E1 K)
  (kk:∀t g V E,St t [(2,.hptr 0 0 0 0),(3,.hptr 1 0 0 0),(4,.hptr 2 0 0 0),(5,w5),(8,w8),(9,.int .i64 (j:Int)),(10,.hptr p 0 0 0)]->NB R j p g brow gr a b V0 E0 x.card (f1) (f2) (x.out) V E K->Q .norm t [] g) :
  wp C0 d none (.feet [0,1,0,4,0,28,60,124,255,511,1023] [o 64 (.fad 3 (.t 10)),o 65 (.load false 1 (.t 64)),o 66 (.fad 2 (.t 3)),o 67 (.load false 1 (.t 66)),o 68 (.mv (.t 9)),o 69 (.ixs 4 (.t 67) (.t 68)),o 70 (.fad 3 (.t 69)),o 71 (.load false 1 (.t 70)),o 72 (.app 1 8 (.t 65) (.t 71)),o 73 (.fad 3 (.t 10)),oz (.store 1 (.t 73) (.t 72))]) Q t [] g:=by
 obtain ⟨h2,h3,h4,h5,h8,h9,h10,-⟩:=ht
 have hlt:j<rows.length:=(List.getElem?_eq_some_iff.1 z1).1
 obtain ⟨p',hp1,hp2,hp3,hgx⟩:=hN.hp.box (k:=(5,0)) (by simp[LX]) hN.bx
 rw[hN.vb] at hp3;injection hp3 with hp3;subst hp3
 have hgx:g.h.get p=.cells 4 [[.int .i64 x.card,V1 (1,j),V1 (2,j),V1 (3,j)]] 0 false false:=hgx
 have hnx:=hN.hp.nx
 have hlen:=hN.len
 simp only[sx,sy,sf,SO.run,↓reduceIte,Nat.reduceEqDiff,h3,h9,h10,hN.bb.2.1,r1,hlt,z1,hry,hgx,Option.isSome_some,Option.getD_some]
 refine (hN.hp.same (g':=_) (by simp) (by simp;omega)).app (k:=(3,j)) (by simp[LX]) (hN.e3) (new:=(x.out).map ci) (by simpa using (hfc.tree (h':=g.h) (Nat.le_refl _)).ints) (by simp[aZ];omega) fun v1 ga hHa na fra fsa lga vca vta=>?_
 simp only[sy] at na fra fsa lga
 obtain ⟨p',hp1',hp2',hp3',hgx'⟩:=hHa.box (k:=(5,0)) (by simp[LX]) (by rw[ae _ _ (by simp)];exact hN.bx)
 rw[ae _ _ (by simp),hN.vb] at hp3';injection hp3' with hp3';subst hp3'
 have hgx':ga.h.get p=.cells 4 [[.int .i64 x.card,V1 (1,j),V1 (2,j),V1 (3,j)]] 0 false false:=hgx'
 simp only[sx,sy,sf,SO.run,↓reduceIte,Nat.reduceEqDiff,Nat.reduceAdd,Nat.reduceLeDiff,h10,hgx',vca,vta]
 refine ⟨?_,?_⟩
 ·simp only[List.reverse_cons,List.reverse_nil,List.nil_append,List.cons_append]
  exact aX [false,false,false,false,false,false,false,false,true,false,true] [] (by simp[All2,au,aF]) (by decide) (by simp)
 have hHb:=(hHa.same (g':=aI (dj (aI (dj ga []) []) []) []) (by simp) (by simp;omega)).putb (k:=(5,0)) (by simp[LX]) (row:=[.int .i64 x.card,V1 (1,j),V1 (2,j),V1 (3,j)]) (row':=[.int .i64 x.card,V1 (1,j),V1 (2,j),v1]) (by rw[ae _ _ (by simp)];exact hN.bx) (by rw[ae _ _ (by simp)];exact hN.vb) rfl
 refine kk _ _ (ups V1 (3,j) v1) (ups (ups E1 (3,j) (En.sl 1 (List.map ci []++List.map ci x.out))) (5,0) (En.bx [.int .i64 x.card,V1 (1,j),V1 (2,j),v1])) (by simp[St,sx,h2,h3,h4,h9,h10,h5,h8]) ?_
 exact { hp:=hHb.same (by simp) (by simp),bb:=hN.bb.fr (fun i hi=>by simp[H.get_put];rw[if_neg (by omega),fra i hi]),vb:=by rw[ae _ _ (by simp)];exact hN.vb
         bx:=by rw[ax,ax,ae V1 (k:=(3,j)) (j:=(1,j)) _ (by simp),ae V1 (k:=(3,j)) (j:=(2,j)) _ (by simp)]
         e3:=by rw[ae _ _ (by simp),ax];rfl,e1:=by rw[ae _ _ (by simp),ae _ _ (by simp)];exact hN.e1,e2:=by rw[ae _ _ (by simp),ae _ _ (by simp)];exact hN.e2
         old:=fun k hk=>by rw[ae _ _ (eG hk 3 (by omega) (by omega)),ae _ _ (zS hk),ae _ _ (eG hk 3 (by omega) (by omega))];exact hN.old k hk
         len:=by have:=hN.len;omega }
theorem KY {d K:Nat}{m:Causal}{brow:List AV}{a b:AV}{Q:QT}(hS:SlR NoP 0 .nil m.nodes b)(hK:K<=1000000)(hb:Bnd K m){R:Nat}(hR:R<=K){Rt:Nat->List Int}{t:T}{g:G}{V:Ky->AV}{E:Ky->En}
  (ht:St t [(2,.hptr 0 0 0 0),(3,.hptr 1 0 0 0),(4,.hptr 2 0 0 0)]) (h5:tat t 5=V (4,0)) (h8:tat t 8=V (4,1)) (h9:tat t 9=.int .i64 0) (hH:Hp g 3 (LB R 0) V E) (hB:BB g brow m.grain a b) (hD:BD K R 0 V E Rt (fun _=>0) (fun _ _=>[]))
  (fin:∀t g V E c F,St t [(2,.hptr 0 0 0 0),(3,.hptr 1 0 0 0),(4,.hptr 2 0 0 0)]->tat t 5=V (4,0)->tat t 8=V (4,1)->Hp g 3 (LB R m.nodes.length) V E->BB g brow m.grain a b->BD K R m.nodes.length V E Rt c F->Q (.exit 2) t [] g) :
  wpL (wp C0 d none fh) Q t [] g:=by
 obtain ⟨rows,r1,r2,r3,r4⟩:=hS.all
 have r1:∀h',ah h' 4 b=some rows:=r1
 have hbr:=hb.n
 simp only[fh]
 refine bB m.nodes.length (by omega) (fun j t df g=>df=[]/\St t [(2,.hptr 0 0 0 0),(3,.hptr 1 0 0 0),(4,.hptr 2 0 0 0)]/\∃V E c F,tat t 5=V (4,0)/\tat t 8=V (4,1)/\Hp g 3 (LB R j) V E/\BB g brow m.grain a b/\BD K R j V E Rt c F)
  ⟨rfl,ht,V,E,_,_,h5,h8,hH,hB,hD⟩ h9 (by decide) (by rintro j t df g v s (rfl | rfl | rfl)<;>simp[St,sx]) ?_ ?_ ?_
 ·rintro j t df g hj ⟨rfl,⟨h2,h3,h4,-⟩,V,E,c,F,h5,h8,hH,hB,hD⟩ h9
  simp only[sx,sy,SO.run,↓reduceIte,Nat.reduceEqDiff,h2,h3,h4,h5,h8,h9,hB.2.1,hS.len,St]
  exact ⟨V,E,c,F,rfl,rfl,hH,hB,hD⟩
 ·clear ht h5 h8 h9 hH hB hD
  rintro j t df g hj ⟨rfl,⟨h2,h3,h4,-⟩,V,E,c,F,h5,h8,hH,hB,hD⟩ h9
  obtain ⟨x,hx,htk,hm⟩:=af hj
  obtain ⟨row,q1,q2⟩:=r3 j x hx
  obtain ⟨fa,fb,fc,rfl,hfa,hfb,hfc⟩:=bW.1 q2
  have hlt:j<rows.length:=by omega
  have hry:=r4 (by omega)
  obtain ⟨l1,l2,l3⟩:=hb.f x hm
  have hnx:=hH.nx
  have hnj:∀q,1<=q->q<=3->¬LB R j (q,j):=fun q a1 a2 h=>eG h q a1 a2 rfl
  have hn5:¬LB R j (5,0):=fun h=>zS h rfl
  have hH1:=hH.add (k:=(5,0)) (L':=fun k=>LB R j k\/k=(5,0)) (g':=(g.new (.cells 4 [[.int .i64 0,.nils,.nils,.nils]] 0 false false)).put g.nx (.cells 4 [[.int .i64 x.card,.nils,.nils,.nils]] 0 false false))
   (v':=.hptr g.nx 0 0 0) (e':=.bx [.int .i64 x.card,.nils,.nils,.nils]) hn5 ⟨g.nx,by omega,by simp,rfl,by simp[bi]⟩ (by simp) (fun i _ hi=>by rw[G.put_h,aq _ _ _ (by omega),G.new_h,aq _ _ _ (by omega)]) (fun i hi=>by injection hi with hi;omega) (fun k hk=>hk)
  have hH2:=hH1.add (k:=(1,j)) (L':=fun k=>LB R j k\/k=(5,0)\/k=(1,j)) (v':=.nils) (e':=.sl 1 []) (by rintro (h | h);exact hnj 1 (by omega) (by omega) h;simp at h) (.inl ⟨rfl,rfl⟩) (Nat.le_refl _) (fun _ _ _=>rfl) (fun i hi=>by cases hi) (fun k hk=>by rcases hk with h | h | h;exact .inl (.inl h);exact .inl (.inr h);exact .inr h)
  have hH3:=hH2.add (k:=(2,j)) (L':=fun k=>LB R j k\/k=(5,0)\/k=(1,j)\/k=(2,j)) (v':=.nils) (e':=.sl 1 []) (by rintro (h | h | h);exact hnj 2 (by omega) (by omega) h;simp at h;simp at h) (.inl ⟨rfl,rfl⟩) (Nat.le_refl _) (fun _ _ _=>rfl) (fun i hi=>by cases hi) (fun k hk=>by rcases hk with h | h | h | h;exact .inl (.inl h);exact .inl (.inr (.inl h));exact .inl (.inr (.inr h));exact .inr h)
  have hH4:=hH3.add (k:=(3,j)) (L':=LX R j) (v':=.nils) (e':=.sl 1 []) (by rintro (h | h | h | h);exact hnj 3 (by omega) (by omega) h;simp at h;simp at h;simp at h) (.inl ⟨rfl,rfl⟩) (Nat.le_refl _) (fun _ _ _=>rfl) (fun i hi=>by cases hi) (fun k hk=>by rcases hk with h | h | h | h | h;exact .inl (.inl h);exact .inl (.inr (.inl h));exact .inl (.inr (.inr (.inl h)));exact .inl (.inr (.inr (.inr h)));exact .inr h)
  have hNB:=NB.mk (K:=K) (card:=x.card) (f1:=[]) (f2:=[]) (f3:=[]) (V0:=V) (E0:=E) hH4 (hB.fr fun i hi=>by rw[G.put_h,aq _ _ _ (by omega),G.new_h,aq _ _ _ (by omega)]) (p:=g.nx)
   (by simp[ae,ax]) (by simp[ae,ax]) (by simp[ae,ax]) (by simp[ae,ax]) (by simp[ax])
   (fun k hk=>by rw[ae _ _ (eG hk 3 (by omega) (by omega)),ae _ _ (eG hk 3 (by omega) (by omega)),ae _ _ (eG hk 2 (by omega) (by omega)),ae _ _ (eG hk 2 (by omega) (by omega)),ae _ _ (eG hk 1 (by omega) (by omega)),ae _ _ (eG hk 1 (by omega) (by omega)),ae _ _ (zS hk),ae _ _ (zS hk)];exact ⟨rfl,rfl⟩) (by simp)
  clear hH1 hH2 hH3 hH4
  refine dT (P:=fun t df g'=>df=[]/\St t [(2,.hptr 0 0 0 0),(3,.hptr 1 0 0 0),(4,.hptr 2 0 0 0),(5,V (4,0)),(8,V (4,1)),(9,.int .i64 (j:Int)),(10,.hptr g.nx 0 0 0)] /\
   g'=(g.new (.cells 4 [[.int .i64 0,.nils,.nils,.nils]] 0 false false)).put g.nx (.cells 4 [[.int .i64 x.card,.nils,.nils,.nils]] 0 false false)) ?_ ?_
  ·simp only[sx,sy,SO.run,↓reduceIte,Nat.reduceEqDiff,Nat.reduceAdd,Nat.reduceLeDiff,h2,h3,h4,h5,h8,h9,hB.2.1,r1,hlt,q1,hry,Option.isSome_some,Option.getD_some,St]
  obtain ⟨p,hp⟩:∃p,p=g.nx:=⟨_,rfl⟩
  rw[<-hp] at hNB ⊢
  rintro t df g1 ⟨rfl,ht,rfl⟩
  rw[oO]
  refine KT hK r1 q1 hry hfa l1 ht hNB ?_
  clear hNB ht
  intro t g V1 E1 ht hNB
  rw[ii,oO]
  refine KR hK r1 q1 hry hfb l2 ht hNB ?_
  clear hNB ht
  intro t g V1 E1 ht hNB
  rw[ii,oO]
  refine Le hK r1 q1 hry hfc l3 ht hNB ?_
  clear hNB ht
  rintro t g V1 E1 ⟨h2,h3,h4,h5,h8,h9,h10,-⟩ hNB
  rw[ii]
  obtain ⟨p',hp1,hp2,hp3,hgx⟩:=hNB.hp.box (k:=(5,0)) (by simp[LX]) hNB.bx
  rw[hNB.vb] at hp3;injection hp3 with hp3;subst hp3
  have hgx:g.h.get p=.cells 4 [[.int .i64 x.card,V1 (1,j),V1 (2,j),V1 (3,j)]] 0 false false:=hgx
  have e41:=hNB.old (4,1) (by simp[LB])
  have e40:=hNB.old (4,0) (by simp[LB])
  simp only[sx,sy,SO.run,↓reduceIte,Nat.reduceEqDiff,Nat.reduceAdd,Nat.reduceLeDiff,h8,h10,hgx]
  rw[<-e41.1]
  have hnx2:=hNB.hp.nx
  refine (hNB.hp.step (g':=g.new (.cells 4 [[.int .i64 x.card,V1 (1,j),V1 (2,j),V1 (3,j)]] 0 false false)) (by simp) (fun i _ hi=>by rw[G.new_h,aq _ _ _ (by omega)])).app (k:=(4,1)) (by simp[LX,LB]) (by rw[e41.2];exact hD.ns)
   (new:=[[.int .i64 x.card,V1 (1,j),V1 (2,j),V1 (3,j)]]) (by simp[sx,sy]) (by simp[aZ];omega) fun v3 g3 hH4 n3 fr3 _ lg3 vc3 vt3=>?_
  simp only[sx,sy] at n3 fr3
  simp only[sx,sy,SO.run,↓reduceIte,Nat.reduceEqDiff,h2,h3,h4,h5,h9,St]
  have hlb:∀k,LB R (j+1) k->LX R j k:=fun k hk=>by
   rcases hk with h | ⟨a1,a2,a3⟩ | h
   ·exact .inl (.inl h)
   ·by_cases e:k.2=j
    ·have:k.1=1\/k.1=2\/k.1=3:=by omega
     rcases this with h | h | h
     ·exact .inr (.inr (.inl (Prod.ext h e)))
     ·exact .inr (.inr (.inr (.inl (Prod.ext h e))))
     ·exact .inr (.inr (.inr (.inr (Prod.ext h e))))
    ·exact .inl (.inr (.inl ⟨a1,a2,by omega⟩))
   ·exact .inl (.inr (.inr h))
  refine ⟨_,_,ups c j x.card,fun q=>ups (F q) j (if q=1 then x.frm else if q=2 then x.noise else x.out),?_,(ax _ _ _).symm,hH4.sub hlb,hNB.bb.fr (fun i hi=>by rw[fr3 i hi,if_neg (by omega)]),⟨fun i hi=>?_,fun q i a1 a2 hi=>?_,?_,?_⟩⟩
  ·rw[ae _ _ (by simp),e40.1]
  ·rw[ae _ _ (by simp),(hNB.old (0,i) (.inl ⟨rfl,hi⟩)).2];exact hD.r i hi
  ·rw[ae _ _ (by simp;omega)]
   by_cases e:i=j
   ·subst e
    rw[ax]
    have:q=1\/q=2\/q=3:=by omega
    rcases this with rfl | rfl | rfl
    ·exact ⟨hNB.e1,l1⟩
    ·exact ⟨hNB.e2,l2⟩
    ·exact ⟨hNB.e3,l3⟩
   ·rw[ae _ _ e,(hNB.old (q,i) (.inr (.inl ⟨a1,a2,by omega⟩))).2];exact hD.f q i a1 a2 (by omega)
  ·rw[ae _ _ (by simp),e40.2,hD.rs]
   congr 1
   refine List.map_congr_left fun i hi=>?_
   have hi:=List.mem_range.1 hi
   rw[ae _ _ (by simp),(hNB.old (0,i) (.inl ⟨rfl,hi⟩)).1]
  ·rw[ax,List.range_succ,List.map_append]
   congr 2
   ·refine List.map_congr_left fun i hi=>?_
    have hi:=List.mem_range.1 hi
    rw[ae c _ (show i≠j by omega),ae V1 (j:=(1,i)) _ (by simp),ae V1 (j:=(2,i)) _ (by simp),ae V1 (j:=(3,i)) _ (by simp),(hNB.old (1,i) (.inr (.inl ⟨by simp,by simp,hi⟩))).1,(hNB.old (2,i) (.inr (.inl ⟨by simp,by simp,hi⟩))).1,(hNB.old (3,i) (.inr (.inl ⟨by simp,by simp,hi⟩))).1]
   ·simp[ae,ax]
 ·rintro t df g ⟨rfl,ht,V,E,c,F,h5,h8,hH,hB,hD⟩
  exact fin t g V E c F ht h5 h8 hH hB hD
end
end Hx
end
section
namespace Hx
open Go
noncomputable section
structure TI (g:G) (q:Nat) (m:Causal) (k1 k2 act u1 u2 u3:AV) (A B W:List Int):Prop where
 a1:g.h.get 1=.cells 1 [[act]] 0 false false
 a2:g.h.get 2=.cells 3 [[.nils,.nils,.nils]] 0 false false
 a4:g.h.get 4=.cells 4 [[.int .i64 m.grain,k1,k2,.int .i64 (S.ak m)]] 0 false false
 bq:g.h.get q=.cells 3 [[u1,u2,u3]] 0 false false
 o1:Own g 5 u1 1 (A.map ci)
 o2:Own g 5 u2 1 (B.map ci)
 o3:Own g 5 u3 1 (W.map ci)
 q5:5<=q/\q<g.nx
 n1:∀i,vid u1=some i->i≠q/\vid u2≠some i/\vid u3≠some i
 n2:∀i,vid u2=some i->i≠q/\vid u3≠some i
 n3:∀i,vid u3=some i->i≠q
section
variable {g g':G}{q:Nat}{m:Causal}{k1 k2 act u1 u2 u3:AV}{A B W:List Int}
theorem TI.fr (h:TI g q m k1 k2 act u1 u2 u3 A B W)(hn:g.nx<=g'.nx)(hf:∀i,i<g.nx->g'.h.get i=g.h.get i):TI g' q m k1 k2 act u1 u2 u3 A B W:=by
 have q5:=h.q5
 exact ⟨by rw[hf _ (by omega),h.a1],by rw[hf _ (by omega),h.a2],by rw[hf _ (by omega),h.a4],by rw[hf _ (by omega),h.bq],h.o1.fr hn fun i hi=>hf i (h.o1.lt hi).2,h.o2.fr hn fun i hi=>hf i (h.o2.lt hi).2,
  h.o3.fr hn fun i hi=>hf i (h.o3.lt hi).2,by omega,h.n1,h.n2,h.n3⟩
end
end
end Hx
end
