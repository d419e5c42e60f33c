/- A part of the proof: an interpreter over abstract values, shown right against the model, and what the functions of the chapter compute on it. -/
import Derived.Test.YtfpjoiojhegfaaaDoorHx9
set_option linter.unusedVariables false
set_option linter.unusedSimpArgs false
set_option linter.unnecessarySimpa false
section
namespace Hx
open Go
noncomputable section
section
variable {d:Nat}{p:List Nat}{pa cv:AV}{q:Nat}
theorem zG {Q:QT}{t:T}{g:G}{L:List Nat}{D j0:Nat}(n8:p.length<=8)(hlt:∀x∈p,x<18446744073709551616)(rp:∀h,ax h 1 pa=some (p.map cu))(hO:uE p L)(hD:Af D L)(hG:uK p D)
  (ht:St t ((8,.int .u64 (D:Int))::(64,.int .i64 (p.length:Int))::(65,.int .i64 (j0:Int))::LRg pa q)) (h69:tat t 69=pa) (h71:tat t 71=.int .i64 0) (h70:tat t 70=.int .i64 (p.length:Int))
  (yes:∀t v,St t ((8,.int .u64 ((D ||| S.aE v:Nat):Int))::(64,.int .i64 (p.length:Int))::(65,.int .i64 (j0:Int))::LRg pa q)->uE p (L++[v])->Af (D ||| S.aE v) (L++[v])->uK p (D ||| S.aE v)->Q (.exit 5) t [] g)
  (no:∀t,St t (LRg pa q)->(∀v,v<p.length->D.testBit v=true\/¬Sub (Par p v) D)->Q (.exit 6) t [] g):wpL (wp C0 d none dK) Q t [] g:=by
 simp only[dK]
 refine dX (m:=p.length) (by omega) (fun j t df g'=>df=[]/\g'=g/\St t ((69,pa)::(8,.int .u64 (D:Int))::(64,.int .i64 (p.length:Int))::(65,.int .i64 (j0:Int))::LRg pa q)/\∀v,v<j->D.testBit v=true\/¬Sub (Par p v) D)
  ⟨rfl,rfl,⟨h69,ht⟩,fun v hv=>by omega⟩ h71 h70 (by decide)
  (by rintro j t df g v s (rfl | rfl | rfl) ⟨a1,a2,⟨b1,b2,b3,b4,b5,b6,b7,-⟩,c1⟩<;>exact ⟨a1,a2,by simp[St,LRg,sx,b1,b2,b3,b4,b5,b6,b7],c1⟩) ?_ ?_
 ·rintro j t df g' hj ⟨rfl,rfl,⟨h69,h8,h64,h65,h0,h2,h4,-⟩,hall⟩ h71 h70
  obtain ⟨x,hx,-,hxm⟩:=co hj
  have hpj:Par p j=x:=by simp[Par,hx]
  have hxl:=hlt x hxm
  have u1:j<(p.map cu).length:=by simpa using hj
  have u2:(p.map cu)[j]?=some (cu x):=by rw[List.getElem?_map,hx];rfl
  have b3:=oy x D hxl hD.1
  have next:(D.testBit j=true\/¬Sub (Par p j) D)->∀v,v<j+1->D.testBit v=true\/¬Sub (Par p v) D:=fun h v hv=>by
   by_cases e:v=j
   ·subst e;exact h
   ·exact hall v (by omega)
  cases hb:D.testBit j with
  | true =>
   simp only[sz,simprocAttr,h69,h71,h8,rp,u1,u2,cu,aQ _ _ _ hD.1,mV hD.1,mw,hb]
   exact ⟨⟨by simp[St,LRg,sx,h0,h2,h4,h8,h64,h65,h69],next (.inl hb)⟩,h70⟩
  | false =>
   by_cases c2:((x ^^^ (x &&& D):Nat):Int)=0
   ·have hd0:S.aS x D=0:=by simpa [S.aS] using c2
    have hsub:=qq.1 hd0
    have hjL:j ∉ L:=fun h=>by
     have:=(hD.2 j).2 h
     rw[hb] at this;cases this
    have hone:aX .shl (.int .u64 1) (.int .i64 (j:Int))=.val (.int .u64 (S.aE j:Int)):=aL .i64 j
    simp only[sz,simprocAttr,h69,h71,h8,rp,u1,u2,cu,aQ _ _ _ hD.1,mV hD.1,mw,hb,b3,c2,hone,el _ _ hD.1 (ri j)]
    refine yes _ j (by simp[St,LRg,sx,h0,h2,h4,h64,h65]) (xr hO hjL hj fun u hu=>?_) (yg hD (by omega)) (AP hG (by omega) (by rw[hpj];exact hsub))
    rw[hpj] at hu;exact (hD.2 u).1 (hsub u hu)
   ·have hns:¬Sub (Par p j) D:=fun h=>c2 (by
     have:=qq.2 h
     rw[hpj] at this
     simp[S.aS] at this
     simp[this])
    simp only[sz,simprocAttr,h69,h71,h8,rp,u1,u2,cu,aQ _ _ _ hD.1,mV hD.1,mw,hb,b3,c2]
    exact ⟨⟨by simp[St,LRg,sx,h0,h2,h4,h8,h64,h65,h69],next (.inr hns)⟩,h70⟩
 ·rintro t df g' ⟨rfl,rfl,⟨-,-,-,-,ht⟩,hall⟩
  exact no t ht hall
theorem yC {Q:QT}{t:T}{g:G}(n8:p.length<=8)(hp:∀x∈p,x<2 ^ p.length)(hlt:∀x∈p,x<18446744073709551616)(vl:∀g,e8 .slice pa g=.val (.int .i64 (p.length:Int)))(rp:∀h,ax h 1 pa=some (p.map cu))
  (hB:GrB pa cv q (S.aH p) g) (ht:St t ((8,.int .u64 0)::LRg pa q)) (h65:tat t 65=.int .i64 0) (h64:tat t 64=.int .i64 (p.length:Int))
  (bad:∀t g,¬GOk p->g.h.get 0=.cells 2 [[.nils,.nils]] 0 false false->tat t 2=.hptr 0 0 0 0->tat t 3=.int .i64 70->Q .ret t [] g)
  (fin:∀t,St t (LRg pa q)->S.aD p=true->Q (.exit 4) t [] g):wpL (wp C0 d none dP) Q t [] g:=by
 simp only[dP,gq]
 refine dX (m:=p.length) (by omega) (fun j t df g'=>df=[]/\g'=g/\∃(L:List Nat) (D:Nat),L.length=j/\uE p L/\Af D L/\uK p D/\St t ((8,.int .u64 (D:Int))::LRg pa q))
  ⟨rfl,rfl,[],0,rfl,⟨by simp,by simp⟩,⟨by decide,by simp⟩,yf,ht⟩ h65 h64 (by decide)
  (by rintro j t df g v s (rfl | rfl | rfl) ⟨a1,a2,L,D,a3,a4,a5,a6,⟨b1,b2,b3,b4,-⟩⟩<;>exact ⟨a1,a2,L,D,a3,a4,a5,a6,by simp[St,LRg,sx,b1,b2,b3,b4]⟩) ?_ ?_
 ·rintro j t df g' hj ⟨rfl,rfl,L,D,hL,hO,hD,hG,h8,h0,h2,h4,-⟩ h65 h64
  have lg1:aB (.cells 2 [[pa,cv]] 0 false false) 0 0 false 1 0=.val pa:=rfl
  simp only[sz,simprocAttr,h4,hB.hq,lg1,vl]
  refine zG (pa:=pa) (q:=q) (L:=L) (D:=D) (j0:=j) n8 hlt rp hO hD hG (by simp[St,LRg,sx,h0,h2,h4,h8,h64,h65]) (by simp[sx]) (by simp[sx]) (by simp[sx]) ?_ ?_
  ·rintro t v ⟨h8,h64,h65,ht⟩ hO2 hD2 hG2
   simp only[sz,simprocAttr]
   exact ⟨⟨L++[v],D ||| S.aE v,by simp[hL],hO2,hD2,hG2,h8,ht⟩,h65,h64⟩
  ·rintro t ⟨h0,h2,h4,-⟩ hall
   simp only[sz,simprocAttr,gF,h2,hB.h0]
   refine bad _ _ (fun hg=>?_) (by simp[H.get_put]) (by simp[sx,h2]) (by simp[sx])
   obtain ⟨v0,hv0,hv0'⟩:=BJ hO (by omega)
   have:=rV hp hg.ac (T:=D) (fun v hv hb=>by
    rcases hall v hv with h | h
    ·rw[h] at hb;cases hb
    ·exact h) v0 hv0
   exact hv0' ((hD.2 v0).1 this)
 ·rintro t df g' ⟨rfl,rfl,L,D,hL,hO,hD,hG,-,ht⟩
  have hfull:=xM hO (by omega)
  exact fin t ht (rN hG fun v hv=>(hD.2 v).2 (hfull.1 v hv))
theorem AX {a b:AV}{i:Nat}(ha:pB a=true)(hb:vid b=some i):fm [.nils,.nils] [((0,1),.agg [a]),((1,1),b)]=some [a,b]:=by
 cases b<;>first | rfl | cases hb
theorem zQ {g:G}{v':AV}(hd:0<d)(hv:SlR NoP 0 .nil p v'):∃z,ay C0 d N.aH [v'] g=.val z/\GrV p NoP 0 .nil z:=by
 have r1:∀h,SlR NoP 0 h p v':=fun h=>hv.tree (Nat.le_refl 0)
 have e:=su (h:=g.h) d (r1 g.h)
 have hlt:=bC hv
 rw[lI]
 refine gX mZ (xs:=[v']) (by simp only[aE,e]) (by simp[cH]) (oR (m:=2) (sA _) (gW _) (by decide) (by decide)) (by decide) hd ?_
 have vl:∀g,e8 .slice v' g=.val (.int .i64 (p.length:Int)):=fun g=>(r1 .nil).len g
 have ra:∀h,ax h 1 v'=some (p.map cu):=fun h=>(r1 h).nats
 by_cases c1:p.length<1
 ·simp only[sz,simprocAttr,cH,cS,vl,show ((p.length:Int)<1) from by omega]
  exact ru (fun h=>by have:=h.l1;omega)
 by_cases c2:8<p.length
 ·simp only[sz,simprocAttr,cH,cS,vl,show ¬((p.length:Int)<1) from by omega,show ((8:Int)<p.length) from by omega]
  exact ru (fun h=>by have:=h.l8;omega)
 have yp:pB v'=true:=mN (r1 .nil) (by omega)
 have fl:fm [.nils] [((0,1),v')]=some [v']:=by cases v'<;>first | rfl | cases yp
 simp only[sz,simprocAttr,cH,cS,vl,show ¬((p.length:Int)<1) from by omega,show ¬((8:Int)<p.length) from by omega,fl]
 refine vI (b:=1) (n:=p.length) (bytes:=8) (sz:=1) (zero:=[.int .u64 0]) (by unfold eI;omega) (by unfold eI;omega) ?_ fun cv g1 hu n1 f1 hvid=>?_
 ·simp
 have fl2:fm [.nils,.nils] [((0,1),.agg [v']),((1,1),cv)]=some [v',cv]:=AX yp hvid
 have n1':g1.nx=2:=by rw[n1];rfl
 simp only[sz,simprocAttr,fl2,n1']
 have hB:GrB v' cv 2 (S.au p 0 0) ((g1.new (.cells 2 [[.nils,.nils]] 0 false false)).put 2 (.cells 2 [[v',cv]] 0 false false)):=by
  have hne:vid cv≠some 2:=fun e=>by have:=(hu.lt e).2;omega
  refine ⟨?_,by simp[H.get_put],?_,by decide,by simp[n1'],hne⟩
  ·simp[H.get_put,n1']
   rw[f1 0 (by decide)];rfl
  ·rw[za,List.map_replicate]
   refine hu.fr (by simp) fun i hi=>?_
   have:=(hu.lt hi).2
   simp[H.get_put,n1',show ¬i=2 by omega]
 obtain ⟨g2,hg2⟩:∃g2,g2=((g1.new (.cells 2 [[.nils,.nils]] 0 false false)).put 2 (.cells 2 [[v',cv]] 0 false false)):=⟨_,rfl⟩
 rw[<-hg2] at hB ⊢
 clear hg2 hu f1 hvid n1' n1
 simp only[sz,simprocAttr,vl]
 refine Ar (pa:=v') (cv:=cv) (q:=2) (by omega) hlt vl ra yp hB (by simp[St,LRg,sx]) (by simp[sx]) (by simp[sx]) (by simp[sx]) ?_ ?_
 ·intro t g hn a1 a2 a3
  simp only[sz,simprocAttr,a1,a2,a3]
  exact ru hn
 ·rintro t g ⟨h0,h2,h4,-⟩ hB hp
  rw[A6] at hB
  have lg1:aB (.cells 2 [[v',cv]] 0 false false) 0 0 false 1 0=.val v':=rfl
  simp only[sz,simprocAttr,gJ,h4,hB.hq,lg1,vl]
  refine yC (pa:=v') (cv:=cv) (q:=2) (by omega) hp hlt vl ra hB (by simp[St,LRg,sx,h0,h2,h4]) (by simp[sx]) (by simp[sx]) ?_ ?_
  ·intro t g hn a1 a2 a3
   simp only[sz,simprocAttr,a1,a2,a3]
   exact ru hn
  ·rintro t ⟨h0,h2,h4,-⟩ hac
   have hG:S.aB p=true:=ja.2 ⟨by omega,by omega,hp,hac⟩
   have hs2:Own (g.put 0 (.cells 2 [[v',cv]] 0 false false)) 1 cv 1 ((S.aH p).map cu):=hB.hs.fr (by simp) fun i hi=>by
    have:=(hB.hs.lt hi).1
    simp[H.get_put,show ¬i=0 by omega]
   have hsl:=hs2.nats' (by rw[rZ];omega) fun y hy=>by
    obtain ⟨u,-,rfl⟩:=List.mem_map.1 hy
    have:=hK (Eg p u) p.length
    have:=jr (show p.length<=8 by omega)
    omega
   have hld:aB (.cells 2 [[v',cv]] 0 false false) 0 0 true 2 0=.val (.agg [v',cv]):=rfl
   simp only[sz,simprocAttr,gB,h2,h4,hB.hq,hB.h0,hld]
   refine ⟨fun _=>True,_,_,rfl,⟨_,rfl,?_⟩,?_⟩
   ·rw[S.gr,hG]
    exact eL.2 ⟨[v'],[cv],rfl,aY.2 ⟨v',rfl,(r1 .nil).wide (Nat.le_refl _)⟩,aY.2 ⟨cv,rfl,hsl⟩⟩
   ·rw[hG];exact jI.2 rfl
end
end
end Hx
end
section
namespace Hx
open Go
noncomputable section
theorem A8 {d k:Nat}{g:G}{P:Nat->Prop}{v:AV}{p:List Nat}{s:Nat}(hd:0<d)(hv:SlR P k g.h p v)(n8:p.length<=8)(hs:s<2 ^ p.length) :
  ay C0 d N.aM [v,.int .u64 (s:Int)] g=.val (.int .u64 (S.dn p s p.length:Int)):=by
 obtain ⟨v',e,r1⟩:=cM hv d
 have hp:=bC hv
 have hl:=hv.1
 have h256:=jr n8
 rw[nK]
 refine er pP (xs:=[v',.int .u64 (s:Int)]) (by simp only[aE,e,bL 0]) (by simp[iY]) hd ?_
 simp only[sz,simprocAttr,iY]
 refine eh hl (r1 .nil).len (fun j t df g=>df=[]/\tat t 1=.int .u64 (S.dn p s j:Int)) ⟨rfl,by simp[sx,S.dn]⟩ (by simp[sx]) (by simp[sx]) (by decide)
  (by rintro j t df g v s (rfl | rfl | rfl | rfl | rfl | rfl | rfl)<;>simp[sx]) ?_ ?_
 ·rintro j t df g hj ⟨rfl,h1⟩ h5 h0
  simp only[sz,simprocAttr]
  have hu:=w_ hs j
  refine eh hl (r1 .nil).len (fun i t df g=>df=[]/\tat t 5=.int .i64 (j:Int)/\tat t 1=.int .u64 (S.ap p (S.dn p s j) i:Int)) ⟨rfl,by simp[sx,h5],by simp[sx,S.ap,h1]⟩ (by simp[sx]) (by simp[sx,h0]) (by decide)
   (by rintro j t df g v s (rfl | rfl | rfl | rfl | rfl | rfl | rfl)<;>simp[sx]) ?_ ?_
  ·rintro i t df g hi ⟨rfl,h5,h1⟩ h6 h0
   have hr:=oP hu i (by omega)
   obtain ⟨x,hx,-,hm⟩:=co hi
   have hpi:Par p i=x:=by simp[Par,hx]
   have hsh:aX .shl (.int .u64 1) (.int .u64 (i:Int))=.val (.int .u64 ((2 ^ i:Nat):Int)):=by rw[aL,cy (by omega)]
   have h2i:(2:Nat) ^ i<=2 ^ 8:=Nat.pow_le_pow_right (by decide) (by omega)
   by_cases c:((x &&& S.ap p (S.dn p s j) i:Nat):Int)=0
   ·simp only[sz,simprocAttr,h0,h1,h5,h6,(r1 g.h).nats,hi,hx,List.length_map,List.getElem?_map,Option.map_some,cu,bS _ _ (hp x hm) (show S.ap p (S.dn p s j) i<18446744073709551616 by omega),c]
    rw[S.ap,hpi,if_pos (by omega)]
   ·simp only[sz,simprocAttr,h0,h1,h5,h6,(r1 g.h).nats,hi,hx,List.length_map,List.getElem?_map,Option.map_some,cu,bS _ _ (hp x hm) (show S.ap p (S.dn p s j) i<18446744073709551616 by omega),c,bo (show (0:Int)<=(i:Int) by omega) (by omega),hsh,el (S.ap p (S.dn p s j) i) (2 ^ i) (by omega) (by omega)]
    rw[S.ap,hpi,if_neg (by omega)]
  ·rintro t df g ⟨rfl,h5,h1⟩ h0
   simp only[sx,sy,↓reduceIte,h0,h5,h1]
   rw[S.dn]
 ·rintro t df g ⟨rfl,h1⟩ -
  simp only[sz,simprocAttr,jk,h1]
theorem qr {d k:Nat}{g:G}{P:Nat->Prop}{v:AV}{p:List Nat}(hd:0<d)(hv:SlR P k g.h p v) :
  ay C0 d N.au [v] g=.val (.bool (S.aB p)):=by
 obtain ⟨v',e,r1⟩:=cM hv d
 have hlt:=bC hv
 have hl:=hv.1
 rw[mH]
 refine ef pc (xs:=[v']) (by simp only[aE,e]) (by simp[dI]) hd ?_
 have vl:∀g,e8 .slice v' g=.val (.int .i64 (p.length:Int)):=fun g=>(r1 .nil).len g
 by_cases c1:p.length<1
 ·simp only[sz,simprocAttr,dI,vl,show ((p.length:Int)<1) from by omega]
  rw[pr fun h=>by have:=h.l1;omega]
 by_cases c2:8<p.length
 ·simp only[sz,simprocAttr,dI,vl,show ¬((p.length:Int)<1) from by omega,show ((8:Int)<p.length) from by omega]
  rw[pr fun h=>by have:=h.l8;omega]
 simp only[sz,simprocAttr,dI,vl,show ¬((p.length:Int)<1) from by omega,show ¬((8:Int)<p.length) from by omega]
 simp only[io]
 refine eh hl (r1 .nil).len (fun j t df g=>df=[]/\∀x∈p.take j,x<2 ^ p.length) ⟨rfl,by simp⟩ (by simp[sx]) (by simp[sx]) (by decide)
  (by rintro j t df g v s (rfl | rfl | rfl | rfl | rfl | rfl | rfl)<;>simp[sx]) ?_ ?_
 ·rintro j t df g hj ⟨rfl,hw⟩ h3 h0
  obtain ⟨x,hx,htk,hm⟩:=co hj
  have hxl:=hlt x hm
  by_cases c:((x / 2 ^ p.length:Nat):Int)=0
  ·have hx2:x<2 ^ p.length:=by
    have h0:x / 2 ^ p.length=0:=by omega
    rcases Nat.div_eq_zero_iff.1 h0 with h | h
    ·exact absurd h (Nat.ne_of_gt (Nat.pow_pos (by decide)))
    ·exact h
   simp only[sz,simprocAttr,h0,h3,vl,(r1 g.h).nats,hj,hx,List.length_map,List.getElem?_map,Option.map_some,cu,bo (show (0:Int)<=(p.length:Int) by omega) (by omega),aQ _ _ _ hxl,c]
   refine fun y hy=>?_
   rw[htk] at hy
   rcases List.mem_append.1 hy with h | h
   ·exact hw y h
   ·rw[List.mem_singleton.1 h];exact hx2
  ·simp only[sz,simprocAttr,h0,h3,vl,(r1 g.h).nats,hj,hx,List.length_map,List.getElem?_map,Option.map_some,cu,bo (show (0:Int)<=(p.length:Int) by omega) (by omega),aQ _ _ _ hxl,c]
   rw[pr fun h=>c (by rw[Nat.div_eq_of_lt (h.hp x hm)];rfl)]
 ·rintro t df g ⟨rfl,hw⟩ h0
  rw[List.take_length] at hw
  have kA:=fun g=>t_ (d:=d+1) (g:=g) (Nat.succ_pos d) (r1 g.h)
  simp only[sz,simprocAttr,ii,h0,kA]
  have:S.aB p=S.aD p:=by
   cases h:S.aD p with
   | true=>exact ja.2 ⟨by omega,by omega,hw,h⟩
   | false=>exact pr fun h'=>by rw[h'.ac] at h;cases h
  rw[this]
def S.am (n:Nat):List Nat->Nat->Bool
 | [],_=>true
 | x::l,a=>decide (x<2 ^ n)&&decide (x &&& a=0)&&S.am n l (a ||| x)
theorem um {n x a:Nat}{l:List Nat}(h:¬x<2 ^ n):S.am n (x::l) a=false:=by simp[S.am,h]
theorem tJ {n x a:Nat}{l:List Nat}(h:¬x &&& a=0):S.am n (x::l) a=false:=by simp[S.am,h]
theorem qQ {n x a:Nat}{l:List Nat}(h:x<2 ^ n)(h2:x &&& a=0):S.am n (x::l) a=S.am n l (a ||| x):=by simp[S.am,h,h2]
theorem ip {x n:Nat}:((x / 2 ^ n:Nat):Int)=0↔x<2 ^ n:=by
 constructor
 ·intro h
  have h0:x / 2 ^ n=0:=by omega
  rcases Nat.div_eq_zero_iff.1 h0 with h | h
  ·exact absurd h (Nat.ne_of_gt (Nat.pow_pos (by decide)))
  ·exact h
 ·intro h
  rw[Nat.div_eq_of_lt h];rfl
theorem qC {α:Type}{l:List α}{j:Nat}{x:α}(h:l[j]?=some x):l.drop j=x::l.drop (j+1):=by
 obtain ⟨h1,rfl⟩:=List.getElem?_eq_some_iff.1 h
 exact List.drop_eq_getElem_cons h1
theorem zK {d k k2:Nat}{g:G}{P P2:Nat->Prop}{v w:AV}{p l:List Nat}(hd:0<d)(hv:SlR P k g.h p v)(hw:SlR P2 k2 g.h l w) :
  ay C0 d N.aP [v,w] g=.val (.bool (S.am p.length l 0)):=by
 obtain ⟨v',e,r1⟩:=cM hv d
 obtain ⟨w',e2,r2⟩:=cM hw d
 have hlt:=bC hw
 have hl:=hw.1
 have hl1:=hv.1
 rw[nH]
 refine ef qi (xs:=[v',w']) (by simp only[aE,e,e2]) (by simp[iJ]) hd ?_
 have vl:∀g,e8 .slice v' g=.val (.int .i64 (p.length:Int)):=fun g=>(r1 .nil).len g
 simp only[sz,simprocAttr,iJ]
 simp only[jm]
 refine eh hl (r2 .nil).len (fun j t df g=>df=[]/\∃a:Nat,a<18446744073709551616/\S.am p.length (l.drop j) a=S.am p.length l 0/\St t [(0,v'),(5,.int .u64 (a:Int))]) ⟨rfl,0,by decide,rfl,by simp[St,sx]⟩ (by simp[sx]) (by simp[sx]) (by decide)
  (by rintro j t df g v s (rfl | rfl | rfl | rfl | rfl | rfl | rfl)<;>simp[sx,St]) ?_ ?_
 ·rintro j t df g hj ⟨rfl,a,ha,hS,h0,h5,-⟩ h6 h1
  obtain ⟨x,hx,-,hm⟩:=co hj
  have hxl:=hlt x hm
  rw[qC hx] at hS
  by_cases c:x<2 ^ p.length
  ·by_cases c2:x &&& a=0
   ·simp only[sz,simprocAttr,h0,h1,h5,h6,vl,(r2 g.h).nats,hj,hx,List.length_map,List.getElem?_map,Option.map_some,cu,bo (show (0:Int)<=(p.length:Int) by omega) (by omega),aQ _ _ _ hxl,ip,c,bS x a hxl ha,c2,el a x ha hxl]
    refine ⟨a ||| x,qB ha hxl,?_,?_⟩
    ·rw[<-hS,qQ c c2]
    ·simp[St,sx,h0]
   ·simp only[sz,simprocAttr,h0,h1,h5,h6,vl,(r2 g.h).nats,hj,hx,List.length_map,List.getElem?_map,Option.map_some,cu,bo (show (0:Int)<=(p.length:Int) by omega) (by omega),aQ _ _ _ hxl,ip,c,bS x a hxl ha,show ¬((x &&& a:Nat):Int)=0 from by omega]
    rw[<-hS,tJ c2]
  ·simp only[sz,simprocAttr,h0,h1,h5,h6,vl,(r2 g.h).nats,hj,hx,List.length_map,List.getElem?_map,Option.map_some,cu,bo (show (0:Int)<=(p.length:Int) by omega) (by omega),aQ _ _ _ hxl,ip,c]
   rw[<-hS,um c]
 ·rintro t df g ⟨rfl,a,-,hS,-⟩ h0
  simp only[sz,simprocAttr,jp]
  rw[<-hS,List.drop_length];rfl
def S.aN (p l:List Nat):Int:=if S.aB p then (if S.am p.length l 0 then 0 else 2) else 70
theorem tF {d k k2:Nat}{g:G}{P P2:Nat->Prop}{v w:AV}{p l:List Nat}(hd:0<d)(hv:SlR P k g.h p v)(hw:SlR P2 k2 g.h l w) :
  ay C0 d N.ap [v,w] g=.val (.int .i64 (S.aN p l)):=by
 obtain ⟨v',e,r1⟩:=cM hv d
 obtain ⟨w',e2,r2⟩:=cM hw d
 rw[lU]
 refine er nh (xs:=[v',w']) (by simp only[aE,e,e2]) (by simp[fI]) hd ?_
 have kR:=fun g=>qr (d:=d+1) (g:=g) (Nat.succ_pos d) (r1 g.h)
 have kS:=fun g=>zK (d:=d+1) (g:=g) (Nat.succ_pos d) (r1 g.h) (r2 g.h)
 simp only[sz,simprocAttr,fI,kR]
 cases h1:S.aB p with
 | false=>simp only[sz,simprocAttr,S.aN,h1]
 | true =>
  simp only[sz,simprocAttr,kS]
  cases h2:S.am p.length l 0 with
  | false=>simp only[sz,simprocAttr,S.aN,h1,h2]
  | true=>simp only[sz,simprocAttr,S.aN,h1,h2]
theorem At (a b c d e f g:AV):bu 0 [a,b,c,d,e,f,g] .nil=cN (cN (cN (cN (cN (cN (cN .nil 0 a) 1 b) 2 c) 3 d) 4 e) 5 f) 6 g:=rfl
theorem xI {C:Cfg}{d:Nat}{r:List SR}{t:T}{g:G}{K:AV->G->Prop}(h:lj r t g fun vs=>K (cX vs) g):jG C d r t [] g K:=by
 unfold jG
 have:cp (I C) d [] g=some g:=rfl
 rw[this];exact h
def oY:SC:=.seq (.feet [0,0,2,6,15,31] [oL 21 3,oF 22 0 7,oL 23 22,o 24 (.bin .shl (.k (.int .u64 1)) (.t 23)),o 25 (.bin .or (.t 21) (.t 24)),oz (.store 1 (.t 3) (.t 25))]) (sQ [oF 26 1 4,oL 27 26,oF 28 0 7,oL 29 28,oX 30 27 29,oL 31 30,o 32 (.call N.ae [.t 31])] (.blk 0 (.rng 74 (.t 32) [33] bc be)))
theorem zI:dc=.seq (sQ [oL 10 1,o 11 (.load true 2 (.t 7)),o 12 (.raw (.lookup 144 (.tmp 10) (.tmp 11) false))] (.cond (.t 12) (.ret) (.skip))) (sQ [oL 13 1,o 14 (.load true 2 (.t 7)),oz (.raw (.mapUpdate 144 (.tmp 13) (.tmp 14) (.const (.bool true))))] (.seq (sQ [oL 15 2,oF 16 0 7,oL 17 16,o 18 (.bin .shr (.t 15) (.t 17)),o 19 (.bin .and (.t 18) (.k (.int .u64 1))),o 20 (.bin .eql (.t 19) (.k (.int .u64 0)))] (.cond (.t 20) oY (.skip))) ba)):=rfl
theorem Df {p c:List Nat}{pa ch:AV}{Zs:Nat}{Gd:Nat×Bool->Prop}{d k q v:Nat}{dn:Bool}{L:List (Nat×Bool)}{Q:QT}{t:T}{g:G}(hd:0<d)(hG:GrI p c pa ch Zs)(hv:ta p pa ch Zs Gd d k)(hk:S.aF p.length (L++[(v,dn)])<=k)(hvn:v<p.length)(hnz:¬Bt Zs v)
  (hg:∀u,Eg p v u->Gd (u,true)) (hL:∀s∈L++[(v,dn)],Gd s) (hX:∀h':H,(∀i,i<7->i≠4->h'.get i=g.h.get i)->h'.get 4=.cells 1 [[.int .u64 (S.aa (iT (Bt Zs) (L++[(v,dn)])) p.length:Int)]] 0 false false->VI p pa ch Zs (L++[(v,dn)]) h') (hr4:g.h.get 4=.cells 1 [[.int .u64 (S.aa (iT (Bt Zs) L) p.length:Int)]] 0 false false) (hg0:g.h.get 0=.cells 2 [[pa,ch]] 0 false false) (ht:St t (LVs q)) (hq:g.h.get q=.cells 2 [[.int .i64 (v:Int),.bool dn]] 0 false false) (hq7:7<=q) (hqn:q<g.nx)
  (fin:∀t' g' L' m,St t' (LVs q)->VI p pa ch Zs L' g'.h->g.nx<=g'.nx->g.nx<=m->m<g'.nx->g'.h.get m=.dfr true->(∀i,7<=i->i<g.nx->g'.h.get i=g.h.get i)->Dst (RX p Zs) Gd (L++[(v,dn)]) L'->(∀u,Eg p v u->(u,true)∈L')->Q .norm t' [.mark m] g'):wp C0 d none oY Q t [] g:=by
 obtain ⟨h1,h2,h3,h4,h5,h6,h7,-⟩:=ht
 have h256:=jr hG.n8
 have hn8:=hG.n8
 have lq1:aB (.cells 2 [[.int .i64 (v:Int),.bool dn]] 0 false false) 0 0 false 1 0=.val (.int .i64 (v:Int)):=rfl
 have lg2:aB (.cells 2 [[pa,ch]] 0 false false) 0 0 false 1 1=.val ch:=rfl
 have hR:=hK (iT (Bt Zs) L) p.length
 have hor:=el (S.aa (iT (Bt Zs) L) p.length) (S.aE v) (by omega) (ri v)
 rw[cy (by omega),<-Aj (d:=dn) hvn hnz] at hor
 have hsh:aX .shl (.int .u64 1) (.int .i64 (v:Int))=.val (.int .u64 ((2 ^ v:Nat):Int)):=by rw[aL,cy (by omega)]
 have hcv:c[v]?=some (c[v]?.getD 0):=by rw[List.getElem?_eq_getElem (by rw[hG.cl];exact hvn)];rfl
 have u1:v<(c.map cu).length:=by rw[List.length_map,hG.cl];exact hvn
 have u2:(c.map cu)[v]?=some (cu (c[v]?.getD 0)):=by rw[List.getElem?_map,hcv];rfl
 have hyc:=hG.yc (by omega)
 have kM:=fun g=>iK (d:=d) (s:=c[v]?.getD 0) (g:=g) hd
 have hcm:∀u,u∈S.af (c[v]?.getD 0)↔Eg p v u:=fun u=>by rw[jX (hG.cb8 v),hG.cb v u]
 unfold oY
 refine rI (P:=fun t' df' g'=>df'=[]/\g.nx<=g'.nx/\(∀i,i≠4->g'.h.get i=g.h.get i)/\g'.h.get 4=.cells 1 [[.int .u64 (S.aa (iT (Bt Zs) (L++[(v,dn)])) p.length:Int)]] 0 false false/\St t' (LVs q)) ?_ ?_
 ·simp only[sz,simprocAttr,sf,h3,h7,hq,lq1,hr4,hsh,hor]
  refine ⟨?_,by omega,fun i hi=>by simp[H.get_put,hi],by simp[St,LVs,sx,h1,h2,h3,h4,h5,h6,h7]⟩
  simp only[List.reverse_cons,List.reverse_nil,List.nil_append,List.cons_append]
  exact cY [false,false,false,false,false,true] [] (by simp[All2,ak,aK]) (by decide) (by simp)
 clear h1 h2 h3 h4 h5 h6 h7
 rintro t df g1 ⟨rfl,n1,f1,r1,h1,h2,h3,h4,h5,h6,h7,-⟩
 have hI:=hX g1.h (fun i _ hi=>f1 i hi) r1
 have hq1:g1.h.get q=.cells 2 [[.int .i64 (v:Int),.bool dn]] 0 false false:=by rw[f1 q (by omega),hq]
 have g01:g1.h.get 0=.cells 2 [[pa,ch]] 0 false false:=by rw[f1 0 (by omega),hg0]
 simp only[sz,simprocAttr,h4,h7,g01,lg2,hq1,lq1,hG.rc,u1,u2,cu,hyc,kM]
 refine yY (q:=q) (L:=L++[(v,dn)]) (set:=c[v]?.getD 0) hd hv hk (hG.cb8 v) (fun u hu=>hg u ((hcm u).1 hu)) hL hI (by omega) (by simp[St,LVs,sx,h1,h2,h3,h4,h5,h6,h7]) (by simp[sx]) ?_
 intro g' L' hI' hn' hdf hfr hD hall
 simp only[sz,simprocAttr]
 exact fin _ g' L' g1.nx (by simp[St,LVs,sx,h1,h2,h3,h4,h5,h6,h7]) hI' (by omega) n1 (by omega) hdf (fun i a b=>by rw[hfr i a (by omega),f1 i (by omega)]) hD fun u hu=>hall u ((hcm u).2 hu)
theorem zl {p c:List Nat}{pa ch:AV}{Zs:Nat}{Gd:Nat×Bool->Prop}{d:Nat}(hd:0<d)(hG:GrI p c pa ch Zs)(hgc:∀s t,Gd s->RX p Zs s t->Gd t)(hgl:∀s,Gd s->s.1<p.length):∀k,ta p pa ch Zs Gd d k:=by
 intro k
 induction k using Nat.strongRecOn with
 | _ k ih =>
  rintro L ⟨v,dn⟩ g K D hk hs hL hn hI kk
  have hvn:v<p.length:=hgl _ hs
  have h256:=jr hG.n8
  have hz:=hG.zs
  have hn8:=hG.n8
  rw[BT]
  refine BM gP (by simp[b_]) ?_
  simp only[sz,simprocAttr,b_,sk,At]
  obtain ⟨g1,hg1⟩:∃g1,g1=g.new (.cells 2 [[.int .i64 (v:Int),.bool dn]] 0 false false):=⟨_,rfl⟩
  rw[<-hg1]
  have n1:g1.nx=g.nx+1:=by rw[hg1];simp
  have f1:∀i,i<g.nx->g1.h.get i=g.h.get i:=fun i hi=>by rw[hg1];simp[H.get_put,show ¬i=g.nx by omega]
  have hq:g1.h.get g.nx=.cells 2 [[.int .i64 (v:Int),.bool dn]] 0 false false:=by rw[hg1];simp[H.get_put]
  have hI1:VI p pa ch Zs L g1.h:=hI.fr fun i hi=>f1 i (by omega)
  clear hg1
  have lq:aB (.cells 2 [[.int .i64 (v:Int),.bool dn]] 0 false false) 0 0 true 2 0=.val (sk (v,dn)):=rfl
  have lq1:aB (.cells 2 [[.int .i64 (v:Int),.bool dn]] 0 false false) 0 0 false 1 0=.val (.int .i64 (v:Int)):=rfl
  have lg2:aB (.cells 2 [[pa,ch]] 0 false false) 0 0 false 1 1=.val ch:=rfl
  rw[zI]
  by_cases hin:(v,dn)∈L
  ·simp only[sz,simprocAttr,hI1.p,hq,lq]
   rw[zT (id:=3) (s:=(v,dn)) (L:=L) (by simp[sx]) (by simp[sx]) hI1.m,decide_eq_true hin]
   simp only[sz,simprocAttr]
   exact kk g1 L hI1 (by omega) (fun i _ hi=>f1 i hi) (Dst.refl hL) hin
  ·have hlt:=B2 (n:=p.length) hin hvn
   obtain ⟨L1,hL1⟩:∃L1,L1=L++[(v,dn)]:=⟨_,rfl⟩
   rw[<-hL1] at hlt
   have hgL1:∀s∈L1,Gd s:=fun s hs'=>by
    rw[hL1] at hs'
    rcases List.mem_append.1 hs' with h | h
    ·exact hL s h
    ·rw[List.mem_singleton.1 h];exact hs
   refine rI (P:=fun t' df' g'=>df'=[]/\g'=g1/\St t' (LVs g.nx)) ?_ ?_
   ·simp only[sz,simprocAttr,hI1.p,hq,lq]
    rw[zT (id:=3) (s:=(v,dn)) (L:=L) (by simp[sx]) (by simp[sx]) hI1.m,decide_eq_false hin]
    simp only[sz,simprocAttr]
    simp[St,LVs,sx]
   rintro t df g2 ⟨rfl,hg,h1,h2,h3,h4,h5,h6,h7,-⟩
   rw[hg];clear hg
   refine nY (P:=fun t' df' g'=>df'=[]/\g'.nx=g1.nx/\(∀i,i≠3->g'.h.get i=g1.h.get i)/\g'.h.get 3=.map (bcl L1)/\St t' (LVs g.nx)) ?_ ?_
   ·simp only[sz,simprocAttr,h1,h7,hI1.p,hq,lq]
    rw[Dp (id:=3) (s:=(v,dn)) (L:=L) (by simp[sx]) (by simp[sx]) hI1.m hin]
    simp only[sz,simprocAttr]
    exact ⟨fun i hi=>by simp[H.get_put,hi],by simp[H.get_put,hL1],by simp[St,LVs,sx,h1,h2,h3,h4,h5,h6,h7]⟩
   clear h1 h2 h3 h4 h5 h6 h7
   rintro t df g2 ⟨rfl,n2,f2,m2,h1,h2,h3,h4,h5,h6,h7,-⟩
   have f2':∀i,7<=i->i<g1.nx->g2.h.get i=g1.h.get i:=fun i a b=>f2 i (by omega)
   have hq2:g2.h.get g.nx=.cells 2 [[.int .i64 (v:Int),.bool dn]] 0 false false:=by rw[f2 _ (by omega),hq]
   have z2:g2.h.get 1=.cells 1 [[.int .u64 (Zs:Int)]] 0 false false:=by rw[f2 1 (by omega),hI1.z]
   have r2:g2.h.get 4=.cells 1 [[.int .u64 (S.aa (iT (Bt Zs) L) p.length:Int)]] 0 false false:=by rw[f2 4 (by omega),hI1.r]
   have hI2:S.aa (iT (Bt Zs) L) p.length=S.aa (iT (Bt Zs) L1) p.length->VI p pa ch Zs L1 g2.h:=fun e =>
    ⟨by rw[f2 0 (by omega),hI1.g0],z2,by rw[f2 2 (by omega),hI1.a],m2,by rw[<-e,r2],by rw[f2 5 (by omega),hI1.p],by rw[f2 6 (by omega),hI1.v]⟩
   have zq:Zs<18446744073709551616:=by omega
   refine rI (P:=fun t' df' g'=>(df'=[]\/∃m,df'=[.mark m]/\g'.h.get m=.dfr true/\g1.nx<=m/\m<g'.nx)/\St t' (LVs g.nx)/\g1.nx<=g'.nx/\(∀i,7<=i->i<g1.nx->g'.h.get i=g1.h.get i)/\∃L2,VI p pa ch Zs L2 g'.h/\Dst (RX p Zs) Gd L1 L2/\∀u,RX p Zs (v,dn) (u,true)->(u,true)∈L2) ?_ ?_
   ·cases hb:Zs.testBit v with
    | true =>
     have hI3:=hI2 (by rw[hL1,BB (show Bt Zs v from hb)])
     simp only[sz,simprocAttr,h2,h7,hq2,lq1,z2,aQ _ _ _ zq,mV zq,mw,hb]
     exact ⟨.inl trivial,by simp[St,LVs,sx,h1,h2,h3,h4,h5,h6,h7],by omega,f2',L1,hI3,Dst.refl hgL1,fun u hu=>by cases hu with | dn hz' _=>exact absurd hb hz'⟩
    | false =>
     have hnz:¬Bt Zs v:=fun h=>by have h:Zs.testBit v=true:=h;rw[hb] at h;cases h
     have hR:=hK (iT (Bt Zs) L) p.length
     have hor:=el (S.aa (iT (Bt Zs) L) p.length) (S.aE v) (by omega) (ri v)
     rw[cy (by omega),<-Aj (d:=dn) hvn hnz,<-hL1] at hor
     have hsh:aX .shl (.int .u64 1) (.int .i64 (v:Int))=.val (.int .u64 ((2 ^ v:Nat):Int)):=by rw[aL,cy (by omega)]
     have hcv:c[v]?=some (c[v]?.getD 0):=by rw[List.getElem?_eq_getElem (by rw[hG.cl];exact hvn)];rfl
     have u1:v<(c.map cu).length:=by rw[List.length_map,hG.cl];exact hvn
     have u2:(c.map cu)[v]?=some (cu (c[v]?.getD 0)):=by rw[List.getElem?_map,hcv];rfl
     have hyc:=hG.yc (by omega)
     have kM:=fun g=>iK (d:=d) (s:=c[v]?.getD 0) (g:=g) hd
     simp only[sz,simprocAttr,h2,h7,hq2,lq1,z2,aQ _ _ _ zq,mV zq,mw,hb]
     rw[hL1] at hgL1 m2 hlt ⊢
     refine Df (q:=g.nx) (L:=L) (k:=S.aF p.length (L++[(v,dn)])) hd hG (ih _ (by omega)) (Nat.le_refl _) hvn hnz (fun u hu=>hgc (v,dn) (u,true) hs (.dn hnz hu)) hgL1 (fun h' hh hr=>⟨by rw[hh 0 (by omega) (by omega),f2 0 (by omega),hI1.g0],by rw[hh 1 (by omega) (by omega),z2],by rw[hh 2 (by omega) (by omega),f2 2 (by omega),hI1.a],by rw[hh 3 (by omega) (by omega),m2],hr,by rw[hh 5 (by omega) (by omega),f2 5 (by omega),hI1.p],by rw[hh 6 (by omega) (by omega),f2 6 (by omega),hI1.v]⟩) r2 (by rw[f2 0 (by omega),hI1.g0]) (by simp[St,LVs,sx,h1,h2,h3,h4,h5,h6,h7]) hq2 hn (by omega) ?_
     intro t' g' L' m ht' hI' n' hm1 hm2 hdf hfr hD hall
     exact ⟨rfl,.inr ⟨m,rfl,hdf,by omega,hm2⟩,ht',by omega,fun i a b=>by rw[hfr i a (by omega),f2' i a b],L',hI',hD,fun u hu=>hall u (by cases hu with | dn _ e=>exact e)⟩
   ·rintro t df g3 ⟨hdf,ht,n3,f3,L2,hI3,hD,hch⟩
    refine Di (q:=g.nx) (v:=v) (dn:=dn) (L:=L2) (k:=S.aF p.length L2) hd hG (ih _ (by have:=n0 (n:=p.length) hD.pre;omega)) (Nat.le_refl _) hvn (fun u hu=>hgc (v,dn) (u,false) hs hu) hD.good hI3 ht (by rw[f3 _ hn (by omega),hq]) hn (by omega) ?_
    rintro e t' df' g4 L3 he hdf' hI4 n4 f4 hD2 hpa
    have hfin:Dst (RX p Zs) Gd L L3/\(v,dn)∈L3:=by
     have hD3:=hD.tr hD2
     rw[hL1] at hD3
     refine hD3.visit fun u hu=>?_
     obtain ⟨w,b⟩:=u
     cases b with
     | true=>exact hD2.pre _ (hch w hu)
     | false=>exact hpa w hu
    have hfr:∀i,7<=i->i<g.nx->g4.h.get i=g.h.get i:=fun i a b=>by rw[f4 i a (by omega),f3 i a (by omega),f1 i b]
    have hend:fnQ C0 d [] K .ret t' df' g4=jG C0 d [] t' df' g4 K:=rfl
    have hend2:fnQ C0 d [] K .norm t' df' g4=jG C0 d [] t' df' g4 K:=rfl
    have goal:jG C0 d [] t' df' g4 K:=by
     have one:∀g5:G,g5.nx=g4.nx->(∀i,i<7->g5.h.get i=g4.h.get i)->(∀i,i<g.nx->g5.h.get i=g4.h.get i)->K (.tup []) g5:=fun g5 n5 f5 f6 =>
      kk g5 L3 (hI4.fr f5) (by omega) (fun i a b=>by rw[f6 i b,hfr i a b]) hfin.1 hfin.2
     rcases hdf with rfl | ⟨m,rfl,hm,hm1,hm2⟩
     ·rcases hdf' with rfl | ⟨m2,rfl,hm2,hm3⟩
      ·exact xI (one g4 rfl (fun _ _=>rfl) fun _ _=>rfl)
      ·exact mP hm2 (one _ (by simp) (fun i hi=>by simp[H.get_put,show ¬i=m2 by omega]) fun i hi=>by simp[H.get_put,show ¬i=m2 by omega])
     ·have hm4:g4.h.get m=.dfr true:=by rw[f4 m (by omega) hm2,hm]
      rcases hdf' with rfl | ⟨m2,rfl,hm5,hm3⟩
      ·exact mP hm4 (one _ (by simp) (fun i hi=>by simp[H.get_put,show ¬i=m by omega]) fun i hi=>by simp[H.get_put,show ¬i=m by omega])
      ·exact uA hm5 hm4 (by omega) (one _ (by simp) (fun i hi=>by simp[H.get_put,show ¬i=m by omega,show ¬i=m2 by omega]) fun i hi=>by simp[H.get_put,show ¬i=m by omega,show ¬i=m2 by omega])
    rcases he with rfl | rfl
    ·rw[hend];exact goal
    ·rw[hend2];exact goal
def S.az (p:List Nat)(xs zs:Nat):Nat:=S.aa (Re (Eg p) (Bt zs) (Bt xs)) p.length
structure Chl (p c:List Nat):Prop where
 cl:c.length=p.length
 cb:∀v u,(c[v]?.getD 0).testBit u=true↔Eg p v u
theorem Bw (Z:Nat->Prop)(n:Nat):S.aa (iT Z []) n=0:=by
 refine Nat.eq_of_testBit_eq fun i=>?_
 rw[Nat.zero_testBit]
 cases h:(S.aa (iT Z []) n).testBit i with
 | false=>rfl
 | true =>
  obtain ⟨-,⟨d,hd⟩,-⟩:=eJ.1 h
  cases hd
theorem BS {p:List Nat}{Z:Nat->Prop}{xs v:Nat}{b:Bool}(hp:∀x∈p,x<2 ^ p.length)(hx:xs<2 ^ p.length)(h:Rs (Eg p) Z (Bt xs) v b):v<p.length:=by
 cases h with
 | st h=>exact kG hx h
 | dn _ _ e=>exact (j6 hp e).2
 | up _ _ e=>exact (j6 hp e).1
set_option maxRecDepth 5000 in
theorem yP {d xs zs:Nat}{g:G}{v:AV}{p c:List Nat}(hd:0<d)(hm:Agg ((p,c):List Nat×List Nat) NoP 0 g.h v)(hp:∀x∈p,x<2 ^ p.length)(h1:1<=p.length)(n8:p.length<=8)(hc:Chl p c)(hxs:xs<2 ^ p.length)(hzs:zs<2 ^ p.length) :
  ay C0 d N.aC [v,.int .u64 (xs:Int),.int .u64 (zs:Int)] g=.val (.int .u64 (S.az p xs zs:Int)):=by
 have e0:=mq d hm
 obtain ⟨cs,rfl,hcs⟩:=hm
 obtain ⟨_,_,rfl,ha,hb⟩:=eL.1 hcs
 obtain ⟨pa,rfl,hpa⟩:=aY.1 ha
 obtain ⟨ch,rfl,hch⟩:=aY.1 hb
 have h256:=jr n8
 have hpa:SlR NoP 0 .nil p pa:=hpa.tree (Nat.le_refl 0)
 have hch:SlR NoP 0 .nil c ch:=hch.tree (Nat.le_refl 0)
 have rp:∀h,ax h 1 pa=some (p.map cu):=fun h=>(hpa.tree (h':=h) (Nat.le_refl 0):SlR NoP 0 h _ pa).nats
 have rc:∀h,ax h 1 ch=some (c.map cu):=fun h=>(hch.tree (h':=h) (Nat.le_refl 0):SlR NoP 0 h _ ch).nats
 have hG:GrI p c pa ch zs:=⟨hp,n8,rp,rc,mN hpa,fun h=>mN hch (by rw[hc.cl];exact h),hc.cl,hc.cb,hzs⟩
 have lp:=hpa.len
 have lg1:aB (.cells 2 [[pa,ch]] 0 false false) 0 0 false 1 0=.val pa:=rfl
 have hlt:∀x∈p,x<18446744073709551616:=fun x hx=>by have:=hp x hx;omega
 rw[gM]
 refine er ik (xs:=[.agg ([pa]++[ch]),.int .u64 (xs:Int),.int .u64 (zs:Int)]) (by simp only[aE,e0,bL]) (by simp[cx]) hd ?_
 simp only[sz,simprocAttr,cx,dG,List.cons_append,List.nil_append,lg1,lp]
 have go:∀t g',St t [(1,.int .u64 (xs:Int)),(3,.hptr 0 0 0 0),(5,.hptr 1 0 0 0),(7,.hptr 2 0 0 0)]->g'.nx=3->g'.h.get 0=.cells 2 [[pa,ch]] 0 false false->g'.h.get 1=.cells 1 [[.int .u64 (zs:Int)]] 0 false false->g'.h.get 2=.cells 1 [[.int .u64 (S.up p zs p.length:Int)]] 0 false false ->
   wp C0 (d+1) none bg (fnQ C0 (d+1) [SR.tm 6] fun v _=>v=AV.int IntKind.u64 ↑(S.az p xs zs)) t [] g':=by
  rintro t g1 ⟨t1,t3,t5,t7,-⟩ n1 g0 gz ga
  have xn:xs<256:=by omega
  have st1:∀g,fY (.cells 1 [[.nilm]] 0 false false) g 5 0 0 1 0 (.hmap 3)=.upd .undef (g.put 5 (.cells 1 [[.hmap 3]] 0 false false)):=fun g=>rfl
  have st2:∀g,fY (.cells 1 [[.nilf]] 0 false false) g 6 0 0 1 0 (.clo N.aQ [] [.hptr 5 0 0 0,.hptr 1 0 0 0,.hptr 4 0 0 0,.hptr 0 0 0 0,.hptr 6 0 0 0,.hptr 2 0 0 0])=.upd .undef (g.put 6 (.cells 1 [[Ah]] 0 false false)):=fun g=>rfl
  have kM:=fun g=>iK (d:=d+1) (s:=xs) (g:=g) (Nat.succ_pos d)
  simp only[sz,simprocAttr,bg,Dj,t1,t3,t5,t7,kM,n1,st1,st2]
  obtain ⟨g2,hg2⟩:∃g2,g2=(((((((g1.new (AObj.map [])).new (AObj.cells 1 [[AV.int IntKind.u64 0]] 0 false false)).new (AObj.cells 1 [[AV.nilm]] 0 false false)).put 4 (AObj.cells 1 [[AV.int IntKind.u64 0]] 0 false false)).put 5 (AObj.cells 1 [[AV.hmap 3]] 0 false false)).new (AObj.cells 1 [[AV.nilf]] 0 false false)).put 6 (AObj.cells 1 [[Ah]] 0 false false)):=⟨_,rfl⟩
  rw[<-hg2]
  have n2:g2.nx=7:=by rw[hg2];simp[n1]
  have hz0:S.aa (iT (Bt zs) []) p.length=0:=Bw _ _
  have hI:VI p pa ch zs [] g2.h:=by
   rw[hg2]
   refine ⟨?_,?_,?_,?_,?_,?_,?_⟩
   ·simp[H.get_put,n1,g0]
   ·simp[H.get_put,n1,gz]
   ·simp[H.get_put,n1,ga]
   ·simp[H.get_put,n1];rfl
   ·simp[H.get_put,n1,hz0]
   ·simp[H.get_put,n1]
   ·simp[H.get_put,n1]
  clear hg2 g0 gz ga
  have hgc:∀s t,Rs (Eg p) (Bt zs) (Bt xs) s.1 s.2->RX p zs s t->Rs (Eg p) (Bt zs) (Bt xs) t.1 t.2:=fun s t h1 h2=>Bv h1 h2
  have hgl:∀s:Nat×Bool,Rs (Eg p) (Bt zs) (Bt xs) s.1 s.2->s.1<p.length:=fun s h=>BS hp hxs h
  have hv:=zl (Gd:=fun s=>Rs (Eg p) (Bt zs) (Bt xs) s.1 s.2) (Nat.succ_pos d) hG hgc hgl (S.aF p.length [])
  refine rD (Nat.succ_pos d) xn (by simp[sx]) (by decide) (fun j h=>VJ p pa ch zs (fun s=>Rs (Eg p) (Bt zs) (Bt xs) s.1 s.2) [] false (S.af xs) g2 j h) ?_ ⟨⟨[],hI,Dst.refl (fun s h=>by cases h),fun i v h=>absurd h (Nat.not_lt_zero i)⟩,fun _ _ _=>rfl⟩ ?_ ?_
  ·rintro j h h' hh ⟨⟨L1,i1,i2,i3⟩,f1⟩
   exact ⟨⟨L1,i1.fr fun i hi=>hh i (by omega),i2,i3⟩,fun i h1 h2=>by rw[hh i h2,f1 i h1 h2]⟩
  ·rintro j v g1 hj ⟨⟨L1,i1,i2,i3⟩,f1⟩ hn1
   simp only[sz,simprocAttr,dq]
   intro g3 hn3 hf3
   have i1':VI p pa ch zs L1 g3.h:=i1.fr fun i hi=>hf3 i (by omega)
   simp only[sz,simprocAttr,dm,i1'.v]
   refine hv L1 (v,false) g3 _ _ (n0 i2.pre) (.st ((jX xn).1 (List.mem_of_getElem? hj))) i2.good (by omega) i1' fun g4 L2 j1 j2 j3 j4 j5=>?_
   simp only[sz,simprocAttr]
   refine ⟨j2,fun i a b=>j3 i (by omega) b,.inl ⟨rfl,⟨L2,j1,i2.tr j4,fun i u hi hu=>?_⟩,fun i a b=>?_⟩⟩
   ·by_cases e:i=j
    ·subst e
     rw[hj] at hu
     injection hu with hu
     subst hu
     exact j5
    ·exact j4.pre _ (i3 i u (by omega) hu)
   ·omega
  ·rintro g' ⟨⟨L1,i1,i2,i3⟩,f1⟩ hn' hdf
   have hall:∀x,Bt xs x->(x,false)∈L1:=fun x hx=>by
    obtain ⟨i,hi,e⟩:=List.mem_iff_getElem.1 ((jX xn).2 hx)
    exact i3 i x hi (by rw[List.getElem?_eq_getElem hi,e])
   have hval:S.aa (iT (Bt zs) L1) p.length=S.az p xs zs:=bO fun y _=>by
    constructor
    ·rintro ⟨⟨b,h⟩,hz⟩;exact ⟨⟨b,(v6 i2 hall y b).1 h⟩,hz⟩
    ·rintro ⟨⟨b,h⟩,hz⟩;exact ⟨⟨b,(v6 i2 hall y b).2 h⟩,hz⟩
   have hr:=i1.r
   rw[hval] at hr
   simp only[sz,simprocAttr,du,hr]
   refine mP hdf ?_
   simp only[sz,simprocAttr]
 have go2:∀t df g',(df=[]/\St t [(1,.int .u64 (xs:Int)),(3,.hptr 0 0 0 0),(5,.hptr 1 0 0 0),(7,.hptr 2 0 0 0)]/\g'.nx=3/\g'.h.get 0=.cells 2 [[pa,ch]] 0 false false/\g'.h.get 1=.cells 1 [[.int .u64 (zs:Int)]] 0 false false/\g'.h.get 2=.cells 1 [[.int .u64 (S.up p zs p.length:Int)]] 0 false false) ->
   wp C0 (d+1) none bg (fnQ C0 (d+1) [SR.tm 6] fun v _=>v=AV.int IntKind.u64 ↑(S.az p xs zs)) t df g':=by
  rintro t df g' ⟨rfl,a1,a2,a3,a4,a5⟩
  exact go t g' a1 a2 a3 a4 a5
 refine dX (m:=p.length) (by omega) (fun j t df g'=>df=[]/\St t [(1,.int .u64 (xs:Int)),(3,.hptr 0 0 0 0),(5,.hptr 1 0 0 0),(7,.hptr 2 0 0 0)]/\g'.nx=3/\g'.h.get 0=.cells 2 [[pa,ch]] 0 false false/\g'.h.get 1=.cells 1 [[.int .u64 (zs:Int)]] 0 false false/\g'.h.get 2=.cells 1 [[.int .u64 (S.up p zs j:Int)]] 0 false false)
  ⟨rfl,by simp[St,sx],by simp[sx],by simp[sx,H.get_put],by simp[sx,H.get_put],by simp[sx,H.get_put];rfl⟩ (by simp[sx]) (by simp[sx]) (by decide) ?_ ?_ ?_
 ·rintro j t df g v s hs ⟨a1,⟨b1,b2,b3,b4,-⟩,a3⟩
  refine ⟨a1,?_,a3⟩
  rcases hs with rfl | rfl | rfl<;>simp[St,sx, *]
 ·rintro j t df g hj ⟨rfl,⟨h1,h3,h5,h7,-⟩,n3,g0,gz,ga⟩ h19 h18
  have hup:=rC hp hzs j
  simp only[sz,simprocAttr,h3,g0,lg1,lp]
  simp only[dt,dl]
  refine dX (m:=p.length) (by omega) (fun i t df g'=>df=[]/\St t [(1,.int .u64 (xs:Int)),(3,.hptr 0 0 0 0),(5,.hptr 1 0 0 0),(7,.hptr 2 0 0 0),(18,.int .i64 (p.length:Int)),(19,.int .i64 (j:Int)),(23,pa)]/\g'.nx=3/\g'.h.get 0=.cells 2 [[pa,ch]] 0 false false/\g'.h.get 1=.cells 1 [[.int .u64 (zs:Int)]] 0 false false/\g'.h.get 2=.cells 1 [[.int .u64 (S.aw p (S.up p zs j) i:Int)]] 0 false false)
   ⟨rfl,by simp[St,sx,h1,h3,h5,h7,h18,h19],n3,g0,gz,by rw[ga];rfl⟩ (by simp[sx]) (by simp[sx]) (by decide) ?_ ?_ ?_
  ·rintro j t df g v s hs ⟨a1,⟨b1,b2,b3,b4,b5,b6,b7,-⟩,a3⟩
   refine ⟨a1,?_,a3⟩
   rcases hs with rfl | rfl | rfl<;>simp[St,sx, *]
  ·rintro i t df g hi ⟨rfl,⟨h1,h3,h5,h7,h18,h19,h23,-⟩,n3,g0,gz,ga⟩ h25 h24
   have hr:=na hp hup i
   obtain ⟨x,hx,-,hxm⟩:=co hi
   have u1:i<(p.map cu).length:=by simpa using hi
   have u2:(p.map cu)[i]?=some (cu x):=by rw[List.getElem?_map,hx];rfl
   have hxl:=hlt x hxm
   have hrl:S.aw p (S.up p zs j) i<18446744073709551616:=by omega
   have us:=cV p (S.up p zs j) i
   rw[ke,hx,Option.getD_some] at us
   simp only[sz,simprocAttr,h7,h23,h25,rp,u1,u2,cu,ga,aQ _ _ _ hrl,mV hrl,Aq]
   cases hb:(S.aw p (S.up p zs j) i).testBit i with
   | true =>
    rw[hb,if_pos rfl] at us
    simp only[sz,simprocAttr,h7,ga,el _ _ hrl hxl]
    exact ⟨⟨by simp[St,sx,h1,h3,h5,h7,h18,h19,h23],by simp[n3],by simp[H.get_put,g0],by simp[H.get_put,gz],by simp[H.get_put];rw[us]⟩,h25,h24⟩
   | false =>
    rw[hb,if_neg (by decide)] at us
    simp only[sz,simprocAttr]
    exact ⟨⟨by simp[St,sx,h1,h3,h5,h7,h18,h19,h23],n3,g0,gz,by rw[us];exact ga⟩,h25,h24⟩
  ·rintro t df g ⟨rfl,⟨h1,h3,h5,h7,h18,h19,h23,-⟩,n3,g0,gz,ga⟩
   simp only[sz,simprocAttr]
   have ga2:=ga
   rw[<-fS] at ga2
   exact ⟨⟨⟨h1,h3,h5,h7,trivial⟩,n3,g0,gz,ga2⟩,h19,h18⟩
 ·intro t df g h
  simp only[sz,simprocAttr]
  exact go2 t df g h
theorem Bq {d k2:Nat}{g:G}{P2:Nat->Prop}{v w:AV}{p c l:List Nat}(hd:0<d)(hm:Agg ((p,c):List Nat×List Nat) NoP 0 g.h v)(hw:SlR P2 k2 g.h l w)(n8:p.length<=8) :
  ay C0 d N.ak [v,w] g=.val (.bool (S.am p.length l 0)):=by
 have e0:=mq d hm
 obtain ⟨cs,rfl,hcs⟩:=hm
 obtain ⟨_,_,rfl,ha,hb⟩:=eL.1 hcs
 obtain ⟨pa,rfl,hpa⟩:=aY.1 ha
 obtain ⟨ch,rfl,hch⟩:=aY.1 hb
 obtain ⟨w',e2,r2⟩:=cM hw d
 have hlt:=bC hw
 have hl:=hw.1
 have hpa:SlR NoP 0 .nil p pa:=hpa.tree (Nat.le_refl 0)
 have lp:=hpa.len
 have wl:=(r2 .nil).len
 have lg1:aB (.cells 2 [[pa,ch]] 0 false false) 0 0 false 1 0=.val pa:=rfl
 rw[fF]
 refine ef f_ (xs:=[.agg ([pa]++[ch]),w']) (by simp only[aE,e0,e2]) (by simp[bM]) hd ?_
 simp only[sz,simprocAttr,bM,cP,List.cons_append,List.nil_append,wl]
 simp only[cI]
 refine dX (m:=l.length) hl (fun j t df g=>df=[]/\g.h.get 0=.cells 2 [[pa,ch]] 0 false false/\∃a:Nat,a<18446744073709551616/\S.am p.length (l.drop j) a=S.am p.length l 0/\St t [(2,.hptr 0 0 0 0),(8,w'),(5,.int .u64 (a:Int))]) ⟨rfl,by simp[sx,H.get_put],0,by decide,rfl,by simp[St,sx]⟩ (by simp[sx]) (by simp[sx]) (by decide)
  (by rintro j t df g v s (rfl | rfl | rfl)<;>simp[sx,St]) ?_ ?_
 ·rintro j t df g hj ⟨rfl,g0,a,ha,hS,h2,h8,h5,-⟩ h10 h9
  obtain ⟨x,hx,-,hm⟩:=co hj
  have hxl:=hlt x hm
  have z1:j<(l.map cu).length:=by simpa using hj
  have z2:(l.map cu)[j]?=some (cu x):=by rw[List.getElem?_map,hx];rfl
  have rt:=fun h=>(r2 h).nats
  rw[qC hx] at hS
  by_cases c:x<2 ^ p.length
  ·by_cases c2:x &&& a=0
   ·simp only[sz,simprocAttr,h2,h5,h8,h10,g0,lg1,lp,rt,z1,z2,cu,aQ _ _ _ hxl,ip,c,bS x a hxl ha,c2,el a x ha hxl]
    refine ⟨⟨a ||| x,qB ha hxl,?_,by simp[St,sx,h2,h8]⟩,h9⟩
    rw[<-hS,qQ c c2]
   ·simp only[sz,simprocAttr,h2,h5,h8,h10,g0,lg1,lp,rt,z1,z2,cu,aQ _ _ _ hxl,ip,c,bS x a hxl ha,show ¬((x &&& a:Nat):Int)=0 from by omega]
    rw[<-hS,tJ c2]
  ·simp only[sz,simprocAttr,h2,h5,h8,h10,g0,lg1,lp,rt,z1,z2,cu,aQ _ _ _ hxl,ip,c]
   rw[<-hS,um c]
 ·rintro t df g ⟨rfl,g0,a,-,hS,-⟩
  simp only[sz,simprocAttr,cE]
  rw[<-hS,List.drop_length];rfl
theorem B0 {p:List Nat}(hp:∀x∈p,x<2 ^ p.length):Chl p (S.aH p):=by
 refine ⟨rZ,fun v u=>?_⟩
 by_cases h:v<p.length
 ·have:(S.aH p)[v]?.getD 0=S.aa (Eg p v) p.length:=by simp[S.aH,h]
  rw[this,eJ]
  exact ⟨fun h=>h.2,fun h=>⟨(j6 hp h).2,h⟩⟩
 ·have:(S.aH p)[v]?=none:=List.getElem?_eq_none (by rw[rZ];omega)
  rw[this]
  constructor
  ·intro h';simp at h'
  ·intro h';exact absurd (j6 hp h').1 h
def okT (E:Nat->Nat->Prop)(Z:Nat->Prop)(u v w:Nat):Prop:=(E u v/\E w v->An E Z v)/\(¬(E u v/\E w v)->¬Z v)
theorem y7 {E:Nat->Nat->Prop}{Z:Nat->Prop}:∀{l:List Nat},opL E Z l↔∀k w v u,l[k]?=some w->l[k+1]?=some v->l[k+2]?=some u->okT E Z u v w
 | []=>⟨fun _ k w v u h=>by simp at h,fun _=>trivial⟩
 | [a]=>⟨fun _ k w v u _ h=>by simp at h,fun _=>trivial⟩
 | w::v::r=>by
  have ih:=y7 (E:=E) (Z:=Z) (l:=v::r)
  constructor
  ·rintro ⟨h1,h2⟩ k w' v' u' e1 e2 e3
   cases k with
   | zero =>
    simp at e1 e2 e3
    subst e1 e2
    cases r with
    | nil=>simp at e3
    | cons u r =>
     simp at e3
     subst e3
     exact h1
   | succ k=>exact ih.1 h2 k w' v' u' (by simpa using e1) (by simpa using e2) (by simpa using e3)
  ·intro h
   refine ⟨?_,ih.2 fun k w' v' u' e1 e2 e3=>h (k+1) w' v' u' (by simpa using e1) (by simpa using e2) (by simpa using e3)⟩
   cases r with
   | nil=>exact trivial
   | cons u r=>exact h 0 w v u rfl rfl rfl
theorem zx {E:Nat->Nat->Prop}{Z:Nat->Prop}{tr:List Nat}:opL E Z tr.reverse↔∀i u v w,1<=i->tr[i - 1]?=some u->tr[i]?=some v->tr[i+1]?=some w->okT E Z u v w:=by
 rw[y7]
 have key:∀{i:Nat} {x:Nat},tr[i]?=some x->tr.reverse[tr.length - 1 - i]?=some x/\i<tr.length:=fun {i x} h=>by
  have hi:=(List.getElem?_eq_some_iff.1 h).1
  refine ⟨?_,hi⟩
  rw[List.getElem?_reverse (by omega),<-h]
  congr 1
  omega
 constructor
 ·intro h i u v w hi e1 e2 e3
  obtain ⟨a1,b1⟩:=key e1
  obtain ⟨a2,b2⟩:=key e2
  obtain ⟨a3,b3⟩:=key e3
  refine h (tr.length - 1 - (i+1)) w v u a3 ?_ ?_
  ·rw[<-a2];congr 1;omega
  ·rw[<-a1];congr 1;omega
 ·intro h k w v u e1 e2 e3
  have l1:=(List.getElem?_eq_some_iff.1 e3).1
  rw[List.length_reverse] at l1
  rw[List.getElem?_reverse (by omega)] at e1 e2 e3
  refine h (tr.length - 1 - (k+1)) u v w (by omega) ?_ e2 ?_
  ·rw[<-e3];congr 1
  ·rw[<-e1];congr 1;omega
theorem Ad {p q:Nat->Prop}{n:Nat}:S.aa p n ||| S.aa q n=S.aa (fun i=>p i\/q i) n :=
 px fun i=>by
  rw[Nat.testBit_or,Bool.or_eq_true,eJ,eJ]
  exact ⟨fun h=>h.elim (fun ⟨a,b⟩=>⟨a,.inl b⟩) fun ⟨a,b⟩=>⟨a,.inr b⟩,fun ⟨a,b⟩=>b.elim (fun b=>.inl ⟨a,b⟩) fun b=>.inr ⟨a,b⟩⟩
theorem A_ {q:Nat->Prop}{n v:Nat}(hv:v<n)(h:∀i,q i↔i=v):S.aa q n=2 ^ v:=by
 rw[yX (p:=fun _=>False) hv fun i=>by rw[h];exact ⟨.inr,fun h=>h.elim (fun h=>h.elim) id⟩,jy (fun _ _ h=>h),Nat.zero_or]
def cn (i:Nat):Int:=(i:Int)
theorem mM {l:List Nat}{i x:Nat}(h:l[i]?=some x):((l.map cn).map ci)[i]?=some (ci (x:Int)):=by rw[List.getElem?_map,List.getElem?_map,h];rfl
theorem nj {s v:Nat}:S.aL s v=s.testBit v:=ke s v
theorem A2 {d k k2:Nat}{g:G}{P P2:Nat->Prop}{v w:AV}{p tr:List Nat}{i a b c:Nat}(hd:0<d)(hv:SlR P k g.h p v)(hw:SlR P2 k2 g.h (tr.map cn) w)(hi:1<=i)(h1:tr[i - 1]?=some a)(h2:tr[i]?=some b)(h3:tr[i+1]?=some c)(hn:p.length<=8)(ha:a<p.length)(hb:b<p.length)(hc:c<p.length) :
  ay C0 d N.aL [v,w,.int .i64 (i:Int)] g=.val (.bool ((Par p b).testBit a&&(Par p b).testBit c)):=by
 obtain ⟨v',e,r1⟩:=cM hv d
 obtain ⟨w',e2,r2⟩:=cM hw d
 have hlt:=bC hv
 have hl1:=hw.1
 rw[List.length_map] at hl1
 have l3:=(List.getElem?_eq_some_iff.1 h3).1
 rw[kz]
 refine ef mg (xs:=[v',w',.int .i64 (i:Int)]) (by simp only[aE,e,e2,bL]) (by simp[eW]) hd ?_
 have hpb:p[b]?=some (Par p b):=by simp[Par,List.getElem?_eq_getElem hb]
 have hpl:=hlt _ (List.mem_of_getElem? hpb)
 have rp:=fun h=>(r1 h).nats
 have rt:=fun h=>(r2 h).ints
 have u1:b<(p.map cu).length:=by simpa using hb
 have u2:(p.map cu)[b]?=some (cu (Par p b)):=by rw[List.getElem?_map,hpb];rfl
 have q1:=mM h1
 have q2:=mM h2
 have q3:=mM h3
 have z1:i - 1<((tr.map cn).map ci).length:=by simp;omega
 have z2:i<((tr.map cn).map ci).length:=by simp;omega
 have z3:i+1<((tr.map cn).map ci).length:=by simp;omega
 have w1:IntKind.wrap .i64 ((i:Int) - 1)=((i - 1:Nat):Int):=by rw[dR (by omega) (by omega)];omega
 have w2:IntKind.wrap .i64 ((i:Int)+1)=((i+1:Nat):Int):=by rw[dR (by omega) (by omega)];omega
 have kI1:∀g,ay C0 (d+1) N.aa [.int .u64 (Par p b:Int),.int .i64 (a:Int)] g=.val (.bool ((Par p b).testBit a)):=fun g=>by rw[kH (Nat.succ_pos d) hpl (by omega),nj]
 have kI2:∀g,ay C0 (d+1) N.aa [.int .u64 (Par p b:Int),.int .i64 (c:Int)] g=.val (.bool ((Par p b).testBit c)):=fun g=>by rw[kH (Nat.succ_pos d) hpl (by omega),nj]
 simp only[sz,simprocAttr,sf,eW,rp,rt,u1,u2,q1,q2,q3,z1,z2,z3,w1,w2,cu,ci,kI1]
 cases (Par p b).testBit a with
 | true=>simp only[sz,simprocAttr,sf,rp,rt,u1,u2,q1,q2,q3,z1,z2,z3,w1,w2,cu,ci,kI2,Bool.true_and]
 | false=>simp only[sz,simprocAttr,sf,Bool.false_and]
def S.aP (p:List Nat)(zs:Nat)(tr:List Nat):Bool:=@decide (opL (Eg p) (Bt zs) tr.reverse) (Classical.propDecidable _)
theorem oe {p:List Nat}{zs:Nat}{tr:List Nat}:S.aP p zs tr=true↔opL (Eg p) (Bt zs) tr.reverse:=by
 rw[S.aP,@decide_eq_true_iff]
theorem C4 {p:List Nat}{zs:Nat}{tr:List Nat}(h:¬opL (Eg p) (Bt zs) tr.reverse):S.aP p zs tr=false:=by
 cases e:S.aP p zs tr with
 | false=>rfl
 | true=>exact absurd (oe.1 e) h
theorem A0 {d k k2:Nat}{g:G}{P P2:Nat->Prop}{v w:AV}{p tr:List Nat}{zs:Nat}(hd:0<d)(hv:SlR P k g.h p v)(hw:SlR P2 k2 g.h (tr.map cn) w)(hp:∀x∈p,x<2 ^ p.length)(hn:p.length<=8)(ht:∀x∈tr,x<p.length)(hz:zs<2 ^ p.length) :
  ay C0 d N.aO [v,w,.int .u64 (zs:Int)] g=.val (.bool (S.aP p zs tr)):=by
 obtain ⟨v',e,r1⟩:=cM hv d
 obtain ⟨w',e2,r2⟩:=cM hw d
 have hl1:=hw.1
 rw[List.length_map] at hl1
 have h256:=jr hn
 rw[nL]
 refine ef p_ (xs:=[v',w',.int .u64 (zs:Int)]) (by simp only[aE,e,e2,bL]) (by simp[iO]) hd ?_
 have rt:=fun h=>(r2 h).ints
 have wl:∀g,e8 .slice w' g=.val (.int .i64 (tr.length:Int)):=fun g=>by rw[(r2 .nil).len g,List.length_map]
 simp only[sz,simprocAttr,iO]
 refine mU (fun n t df g=>df=[]/\∃i:Nat,n=tr.length - i/\1<=i/\(i=1\/i+1<=tr.length)/\St t [(0,v'),(1,w'),(2,.int .u64 (zs:Int)),(7,.int .i64 (i:Int))]/\∀k u v w,1<=k->k<i->tr[k - 1]?=some u->tr[k]?=some v->tr[k+1]?=some w->okT (Eg p) (Bt zs) u v w) (tr.length - 1)
  ⟨rfl,1,rfl,by omega,by omega,by simp[St,sx],fun k u v w h1 h2=>by omega⟩ ?_
 rintro n t df g ⟨rfl,i,rfl,hi,hil,⟨h0,h1,h2,h7,-⟩,hall⟩
 have w2:IntKind.wrap .i64 ((i:Int)+1)=((i+1:Nat):Int):=by rw[dR (by omega) (by omega)];omega
 simp only[jh,jl]
 by_cases hlt:i+1<tr.length
 ·obtain ⟨a,ha⟩:∃a,tr[i - 1]?=some a:=⟨_,List.getElem?_eq_getElem (by omega)⟩
  obtain ⟨b,hb⟩:∃b,tr[i]?=some b:=⟨_,List.getElem?_eq_getElem (by omega)⟩
  obtain ⟨c,hc⟩:∃c,tr[i+1]?=some c:=⟨_,List.getElem?_eq_getElem (by omega)⟩
  have hal:=ht a (List.mem_of_getElem? ha)
  have hbl:=ht b (List.mem_of_getElem? hb)
  have hcl:=ht c (List.mem_of_getElem? hc)
  have q2:=mM hb
  have z2:i<((tr.map cn).map ci).length:=by simp;omega
  have c1:((i+1:Nat):Int)<(tr.length:Int):=by omega
  have kC:=fun g=>A2 (d:=d+1) (g:=g) (Nat.succ_pos d) (r1 g.h) (r2 g.h) hi ha hb hc hn hal hbl hcl
  have h2b:(2:Nat) ^ b<2 ^ p.length:=Nat.pow_lt_pow_right (by decide) hbl
  have kD:=fun g=>A8 (d:=d+1) (g:=g) (s:=2 ^ b) (Nat.succ_pos d) (r1 g.h) hn h2b
  have kI:∀g,ay C0 (d+1) N.aa [.int .u64 (zs:Int),.int .i64 (b:Int)] g=.val (.bool (zs.testBit b)):=fun g=>by rw[kH (Nat.succ_pos d) (by omega) (by omega),nj]
  have hsh:aX .shl (.int .u64 1) (.int .u64 (b:Int))=.val (.int .u64 ((2 ^ b:Nat):Int)):=by rw[aL,cy (by omega)]
  have hdl:=w_ h2b p.length
  have hbp:p[b]?=some (Par p b):=by simp[Par,List.getElem?_eq_getElem hbl]
  have next:okT (Eg p) (Bt zs) a b c->∀k u v w,1<=k->k<i+1->tr[k - 1]?=some u->tr[k]?=some v->tr[k+1]?=some w->okT (Eg p) (Bt zs) u v w:=fun h k u v w a1 a2 e1 e2 e3=>by
   by_cases ek:k=i
   ·subst ek
    rw[ha] at e1;rw[hb] at e2;rw[hc] at e3
    injection e1 with e1;injection e2 with e2;injection e3 with e3
    subst e1 e2 e3
    exact h
   ·exact hall k u v w a1 (by omega) e1 e2 e3
  have fail:¬okT (Eg p) (Bt zs) a b c->S.aP p zs tr=false:=fun h=>C4 fun ho=>h (zx.1 ho i a b c hi ha hb hc)
  have w1:IntKind.wrap .u64 (b:Int)=(b:Int):=bo (by omega) (by omega)
  cases hcol:(Par p b).testBit a&&(Par p b).testBit c with
  | true =>
   have hcc:Eg p a b/\Eg p c b:=by rwa [Bool.and_eq_true] at hcol
   rw[hcol] at kC
   have hand:=bS (S.dn p (2 ^ b) p.length) zs (by omega) (by omega)
   have hAn:S.dn p (2 ^ b) p.length &&& zs=0↔¬An (Eg p) (Bt zs) b:=by
    rw[<-Classical.not_not (a:=S.dn p (2 ^ b) p.length &&& zs=0)]
    refine not_congr ?_
    show _≠0↔_
    rw[rK]
    constructor
    ·rintro ⟨x,x1,x2⟩
     obtain ⟨u,u1,u2⟩:=(Cu hp h2b x).1 x1
     rw[Nat.testBit_two_pow,decide_eq_true_iff] at u1
     subst u1
     exact ⟨x,x2,u2⟩
    ·rintro ⟨x,x1,x2⟩
     exact ⟨x,(Cu hp h2b x).2 ⟨b,by rw[Nat.testBit_two_pow,decide_eq_true_iff],x2⟩,x1⟩
   by_cases c2:((S.dn p (2 ^ b) p.length &&& zs:Nat):Int)=0
   ·simp only[sz,simprocAttr,h0,h1,h2,h7,w1,w2,wl,c1,rt,z2,q2,ci,kC,hsh,kD,hand,c2]
    rw[fail fun h=>hAn.1 (by omega) (h.1 hcc)]
   ·simp only[sz,simprocAttr,h0,h1,h2,h7,w1,w2,wl,c1,rt,z2,q2,ci,kC,hsh,kD,hand,c2]
    refine ⟨_,?_,i+1,rfl,by omega,by omega,by simp[St,sx,h0,h1,h2],next ⟨fun _=>Classical.byContradiction fun h=>c2 (by have:=hAn.2 h;omega),fun h=>absurd hcc h⟩⟩
    omega
  | false =>
   have hcc:¬(Eg p a b/\Eg p c b):=fun h=>by
    have:((Par p b).testBit a&&(Par p b).testBit c)=true:=by rw[Bool.and_eq_true];exact h
    rw[hcol] at this;cases this
   rw[hcol] at kC
   cases hzb:zs.testBit b with
   | true =>
    rw[hzb] at kI
    simp only[sz,simprocAttr,h0,h1,h2,h7,w2,wl,c1,rt,z2,q2,ci,kC,kI]
    rw[fail fun h=>h.2 hcc hzb]
   | false =>
    rw[hzb] at kI
    simp only[sz,simprocAttr,h0,h1,h2,h7,w2,wl,c1,rt,z2,q2,ci,kC,kI]
    refine ⟨_,?_,i+1,rfl,by omega,by omega,by simp[St,sx,h0,h1,h2],next ⟨fun h=>absurd h hcc,fun _ h=>by have h:zs.testBit b=true:=h;rw[hzb] at h;cases h⟩⟩
    omega
 ·have c1:¬((i+1:Nat):Int)<(tr.length:Int):=by omega
  simp only[sz,simprocAttr,h1,h7,w2,wl,c1,jn]
  rw[oe.2 (zx.2 fun k u v w a1 e1 e2 e3=>hall k u v w a1 (by have:=(List.getElem?_eq_some_iff.1 e3).1;omega) e1 e2 e3)]
def stE (p:List Nat)(zs x:Nat)(l:List Nat)(v0 j:Nat)(y:Nat):Prop:=(y=v0/\¬Bt zs v0)\/∃w,w<j/\(Eg p v0 w\/Eg p w v0)/\w ∉ l/\lP (Eg p) (Bt zs) x (w::l) y
theorem Da {p:List Nat}{zs x:Nat}{l:List Nat}{v0 j y:Nat}(h:¬((Eg p v0 j\/Eg p j v0)/\j ∉ l)):stE p zs x l v0 (j+1) y↔stE p zs x l v0 j y:=by
 constructor
 ·rintro (h1 | ⟨w,h1,h2,h3,h4⟩)
  ·exact .inl h1
  ·by_cases e:w=j
   ·subst e;exact absurd ⟨h2,h3⟩ h
   ·exact .inr ⟨w,by omega,h2,h3,h4⟩
 ·rintro (h1 | ⟨w,h1,h2,h3,h4⟩)
  ·exact .inl h1
  ·exact .inr ⟨w,by omega,h2,h3,h4⟩
theorem Bj {p:List Nat}{zs x:Nat}{l:List Nat}{v0 j y:Nat}(h:(Eg p v0 j\/Eg p j v0)/\j ∉ l):stE p zs x l v0 (j+1) y↔stE p zs x l v0 j y\/lP (Eg p) (Bt zs) x (j::l) y:=by
 constructor
 ·rintro (h1 | ⟨w,h1,h2,h3,h4⟩)
  ·exact .inl (.inl h1)
  ·by_cases e:w=j
   ·subst e;exact .inr h4
   ·exact .inl (.inr ⟨w,by omega,h2,h3,h4⟩)
 ·rintro ((h1 | ⟨w,h1,h2,h3,h4⟩) | h1)
  ·exact .inl h1
  ·exact .inr ⟨w,by omega,h2,h3,h4⟩
  ·exact .inr ⟨j,by omega,h.1,h.2,h1⟩
theorem tM {tr:List Nat}{i j x:Nat}(h:tr[i]?=some x):(tr.take (i+1)).all (fun y=>decide (y≠j))=((tr.take i).all (fun y=>decide (y≠j))&&decide (x≠j)):=by
 rw[List.take_add_one,h,List.all_append];simp
theorem Dk {tr:List Nat}{j:Nat}:tr.all (fun y=>decide (y≠j))=true↔j ∉ tr:=by
 rw[List.all_eq_true]
 simp only[decide_eq_true_eq]
 exact ⟨fun h hj=>h j hj rfl,fun h y hy e=>h (e ▸ hy)⟩
def CT (p:List Nat)(zs x m:Nat):Prop :=
 ∀{d k k2:Nat} {g:G} {P P2:Nat->Prop} {v w:AV} {tr:List Nat},p.length - tr.length<=m->0<d->SlR P k g.h p v->SlR P2 k2 g.h (tr.map cn) w->Tw (Eg p) x tr.reverse ->
  ay C0 d N.az [v,w,.int .u64 (zs:Int)] g=.val (.int .u64 (S.aa (lP (Eg p) (Bt zs) x tr.reverse) p.length:Int))
theorem wF {E:Nat->Nat->Prop}{x:Nat}{l:List Nat}(h:Tw E x l):∃v r,l=v::r:=by
 cases h with
 | one=>exact ⟨_,_,rfl⟩
 | ext _ _ _=>exact ⟨_,_,rfl⟩
theorem Bk {kk d:Nat}{Q:QT}{t:T}{g:G}{w':AV}{tr:List Nat}{j:Nat}{b:Bool}{l:List (Nat×AV)}(r2:∀h,SlR NoP kk h (tr.map cn) w')
  (ht:St t [(10,.bool b),(9,.int .i64 (j:Int)),(1,w')]) (h11:tat t 11=.int .i64 0) (hl:∀t a x,a∈[10,11,51,52,53,54,55,56,57,58,59,60,61,62,63,64,65]->St t l->St (cN t a x) l) (hlt:St t l)
  (fin:∀t,St t [(10,.bool (b&&decide (j ∉ tr))),(9,.int .i64 (j:Int)),(1,w')]->St t l->Q (.exit 2) t [] g):wpL (wp C0 d none fE) Q t [] g:=by
 have hl1:=(r2 .nil).1
 rw[List.length_map] at hl1
 have wl:∀g,e8 .slice w' g=.val (.int .i64 (tr.length:Int)):=fun g=>by rw[(r2 .nil).len g,List.length_map]
 have rt:=fun h=>(r2 h).ints
 obtain ⟨h10,h9,h1,-⟩:=ht
 simp only[fE]
 refine eh hl1 wl (fun i t df g'=>df=[]/\g'=g/\St t l/\tat t 9=.int .i64 (j:Int)/\tat t 10=.bool (b&&(tr.take i).all (fun y=>decide (y≠j)))) ⟨rfl,rfl,hlt,h9,by simp[h10]⟩ h11 h1 (by decide) ?_ ?_ ?_
 ·rintro i t df g' v s (rfl | rfl | rfl | rfl | rfl | rfl | rfl) ⟨a1,a2,a3,a4,a5⟩<;>exact ⟨a1,a2,hl _ _ _ (by simp) a3,by simp[sx,a4],by simp[sx,a5]⟩
 ·rintro i t df g' hi ⟨rfl,rfl,hlt,h9,h10⟩ h11 h1
  obtain ⟨x,hx,-,-⟩:=co hi
  have q:=mM hx
  have z:i<((tr.map cn).map ci).length:=by simpa using hi
  have hall:=tM (j:=j) hx
  cases hb:(b&&(tr.take i).all (fun y=>decide (y≠j))) with
  | true =>
   rw[hb] at h10
   have hd:(!decide ((x:Int)=(j:Int)))=decide (x≠j):=by
    by_cases e:x=j
    ·simp[e]
    ·have:¬(x:Int)=(j:Int):=by omega
     simp[e,this]
   have hr:(b&&(tr.take (i+1)).all (fun y=>decide (y≠j)))=decide (x≠j):=by rw[hall,<-Bool.and_assoc,hb,Bool.true_and]
   simp only[sz,simprocAttr,h1,h9,h10,h11,rt,z,q,ci]
   refine ⟨?_,?_⟩
   ·repeat' (first | exact hlt | refine hl _ _ _ (by simp) ?_)
   ·rw[hr];simp[sx,hd]
  | false =>
   rw[hb] at h10
   have hr:(b&&(tr.take (i+1)).all (fun y=>decide (y≠j)))=false:=by rw[hall,<-Bool.and_assoc,hb,Bool.false_and]
   simp only[sz,simprocAttr,h1,h9,h10,h11]
   refine ⟨?_,?_⟩
   ·repeat' (first | exact hlt | refine hl _ _ _ (by simp) ?_)
   ·rw[hr]
 ·rintro t df g' ⟨rfl,rfl,hlt,h9,h10⟩ h1
  refine fin t ⟨?_,h9,h1,trivial⟩ hlt
  rw[h10,List.take_length]
  congr 2
  rw[Bool.eq_iff_iff,Dk,decide_eq_true_iff]
theorem BK {p:List Nat}{zs x:Nat}(hp:∀x∈p,x<2 ^ p.length)(hn:p.length<=8)(hz:zs<2 ^ p.length)(hx:x<p.length):∀m,CT p zs x m:=by
 intro m
 induction m using Nat.strongRecOn with
 | _ m ih =>
  intro d k k2 g P P2 v w tr hm hd hv hw hT
  obtain ⟨v',e,r1⟩:=cM hv d
  obtain ⟨w',e2,r2⟩:=cM hw d
  have hl1:=hw.1
  rw[List.length_map] at hl1
  have h256:=jr hn
  have hE:∀u v,Eg p u v->u<p.length/\v<p.length:=fun u v h=>j6 hp h
  have htl:∀y∈tr,y<p.length:=fun y hy=>Cc hE hx hT y (by simpa using hy)
  have hlt:=bC hv
  rw[nM]
  refine er pZ (xs:=[v',w',.int .u64 (zs:Int)]) (by simp only[aE,e,e2,bL]) (by simp[ez]) hd ?_
  have rt:=fun h=>(r2 h).ints
  have rp:=fun h=>(r1 h).nats
  have wl:∀g,e8 .slice w' g=.val (.int .i64 (tr.length:Int)):=fun g=>by rw[(r2 .nil).len g,List.length_map]
  have kO:=fun g=>A0 (d:=d+1) (g:=g) (Nat.succ_pos d) (r1 g.h) (r2 g.h) hp hn htl hz
  cases ho:S.aP p zs tr with
  | false =>
   rw[ho] at kO
   simp only[sz,simprocAttr,ez,kO]
   have hno:¬Tl (Eg p) (Bt zs) x tr.reverse:=fun h=>by rw[oe.2 (zp.1 h).2] at ho;cases ho
   rw[jy]
   ·rfl
   ·rintro y - ⟨s,h1,-⟩
    have:∃v r,tr.reverse=v::r:=wF hT
    obtain ⟨v0,r,hr⟩:=this
    rw[hr] at h1 hno
    exact hno (pu h1 rfl).1
  | true =>
   rw[ho] at kO
   have hTl:Tl (Eg p) (Bt zs) x tr.reverse:=zp.2 ⟨hT,oe.1 ho⟩
   obtain ⟨v0,r,hr⟩:∃v r,tr.reverse=v::r:=wF hT
   have htr:tr=r.reverse++[v0]:=by rw[<-List.reverse_reverse tr,hr,List.reverse_cons]
   have hlen:tr.length=r.length+1:=by rw[htr];simp
   have hv0:tr[tr.length - 1]?=some v0:=by rw[htr];simp
   have hv0l:=htl v0 (List.mem_of_getElem? hv0)
   have q0:=mM hv0
   have z0:tr.length - 1<((tr.map cn).map ci).length:=by simp;omega
   have w1:IntKind.wrap .i64 ((tr.length:Int) - 1)=((tr.length - 1:Nat):Int):=by rw[dR (by omega) (by omega)];omega
   have hnd:=sU hT
   have hpv:p[v0]?=some (Par p v0):=by simp[Par,List.getElem?_eq_getElem hv0l]
   have u1:v0<(p.map cu).length:=by simpa using hv0l
   have u2:(p.map cu)[v0]?=some (cu (Par p v0)):=by rw[List.getElem?_map,hpv];rfl
   have kI:∀g,ay C0 (d+1) N.aa [.int .u64 (zs:Int),.int .i64 (v0:Int)] g=.val (.bool (zs.testBit v0)):=fun g=>by rw[kH (Nat.succ_pos d) (by omega) (by omega),nj]
   have hmem:∀j,j ∉ v0::r↔j ∉ tr:=fun j=>by rw[<-hr,List.mem_reverse]
   have rest:∀t,St t [(0,v'),(1,w'),(2,.int .u64 (zs:Int)),(8,.int .i64 (v0:Int)),(7,.int .u64 (S.aa (stE p zs x (v0::r) v0 0) p.length:Int))] ->
     wp C0 (d+1) none fG (fnQ C0 (d+1) [SR.tm 6] fun v _=>v=AV.int IntKind.u64 ↑(S.aa (lP (Eg p) (Bt zs) x tr.reverse) p.length)) t [] G.empty:=by
    rintro t ⟨t0,t1,t2,t8,t7,-⟩
    simp only[fG,sz,simprocAttr,jg,je]
    refine eh hv.1 (r1 .nil).len (fun j t df g'=>df=[]/\St t [(1,w'),(2,.int .u64 (zs:Int)),(8,.int .i64 (v0:Int)),(7,.int .u64 (S.aa (stE p zs x (v0::r) v0 j) p.length:Int))]) ⟨rfl,by simp[St,sx,t1,t2,t7,t8]⟩ (by simp[sx]) (by simp[sx,t0]) (by decide)
     (by rintro j t df g v s (rfl | rfl | rfl | rfl | rfl | rfl | rfl)<;>simp[sx,St]) ?_ ?_
    ·rintro j t df g hj ⟨rfl,h1,h2,h8,h7,-⟩ h9 h0
     obtain ⟨y,hy,-,hym⟩:=co hj
     have hpj:Par p j=y:=by simp[Par,hy]
     have hyl:=hlt y hym
     have hpl:=hlt _ (List.mem_of_getElem? hpv)
     have kA:∀g,ay C0 (d+1) N.aa [.int .u64 (y:Int),.int .i64 (v0:Int)] g=.val (.bool (y.testBit v0)):=fun g=>by rw[kH (Nat.succ_pos d) hyl (by omega),nj]
     have kB:∀g,ay C0 (d+1) N.aa [.int .u64 (Par p v0:Int),.int .i64 (j:Int)] g=.val (.bool ((Par p v0).testBit j)):=fun g=>by rw[kH (Nat.succ_pos d) hpl (by omega),nj]
     have hadj:(y.testBit v0 || (Par p v0).testBit j)=true↔(Eg p v0 j\/Eg p j v0):=by rw[Bool.or_eq_true,Eg,Eg,hpj]
     obtain ⟨b,hb⟩:∃b,b=(y.testBit v0 || (Par p v0).testBit j):=⟨_,rfl⟩
     have z1:j<(p.map cu).length:=by simpa using hj
     have z2:(p.map cu)[j]?=some (cu y):=by rw[List.getElem?_map,hy];rfl
     rw[<-hb] at hadj
     refine rI (P:=fun t' df' g'=>df'=[]/\g'=g/\St t' [(0,v'),(1,w'),(2,.int .u64 (zs:Int)),(8,.int .i64 (v0:Int)),(7,.int .u64 (S.aa (stE p zs x (v0::r) v0 j) p.length:Int)),(9,.int .i64 (j:Int)),(10,.bool b)]) ?_ ?_
     ·cases hya:y.testBit v0 with
      | true =>
       rw[hya] at kA hb
       simp only[sz,simprocAttr,h0,h1,h8,h9,rp,z1,z2,cu,kA]
       simp[St,sx,h0,h1,h2,h7,h8,h9,hb]
      | false =>
       rw[hya] at kA hb
       simp only[sz,simprocAttr,h0,h1,h8,h9,rp,z1,z2,u1,u2,cu,kA,kB]
       simp[St,sx,h0,h1,h2,h7,h8,h9,hb]
     ·clear h0 h1 h2 h7 h8 h9
      rintro t df g' ⟨rfl,rfl,h0,h1,h2,h8,h7,h9,h10,-⟩
      simp only[sz,simprocAttr]
      refine Bk (tr:=tr) (j:=j) (b:=b) (l:=[(0,v'),(2,.int .u64 (zs:Int)),(8,.int .i64 (v0:Int)),(7,.int .u64 (S.aa (stE p zs x (v0::r) v0 j) p.length:Int))]) (fun h=>(r2 h)) (by simp[St,sx,h1,h9,h10]) (by simp[sx]) ?_ (by simp[St,sx,h0,h2,h7,h8]) ?_
      ·rintro t a x ha ⟨b1,b2,b3,b4,-⟩
       simp only[List.mem_cons,List.not_mem_nil,or_false] at ha
       rcases ha with rfl | rfl | rfl | rfl | rfl | rfl | rfl | rfl | rfl | rfl | rfl | rfl | rfl | rfl | rfl | rfl | rfl<;>simp[St,sx,b1,b2,b3,b4]
      rintro t ⟨h10,h9,h1,-⟩ ⟨h0,h2,h8,h7,-⟩
      by_cases hj2:(Eg p v0 j\/Eg p j v0)/\j ∉ tr
      ·have hbt:(b&&decide (j ∉ tr))=true:=by rw[Bool.and_eq_true,decide_eq_true_iff];exact ⟨hadj.2 hj2.1,hj2.2⟩
       rw[hbt] at h10
       have hT2:Tw (Eg p) x (tr++[j]).reverse:=by
        rw[List.reverse_append,hr]
        rw[hr] at hT
        exact hT.ext hj2.1 ((hmem j).2 hj2.2)
       have hln:(tr++[j]).length<=p.length:=by
        have:=m_ (sU hT2) (Cc hE hx hT2)
        rwa [List.length_reverse] at this
       rw[List.length_append,List.length_singleton] at hln
       simp only[sz,simprocAttr,fH,h0,h1,h2,h7,h8,h9,h10]
       refine eU (b:=0) (rows:=[]) (new:=(tr.map cn).map ci) (.inl ⟨rfl,rfl⟩) (rt _) (Nat.zero_le _) (by simp[eI];omega) fun w2 g2 hw2 n2 f2 _ l2=>?_
       simp only[sz,simprocAttr,h9]
       refine eU (new:=[ci (j:Int)]) (hw2.step (Fr.new _ _)) (by simp[sx,sy,ci]) (Nat.zero_le _) (by simp[eI];omega) fun w3 g3 hw3 n3 f3 _ l3=>?_
       have e3:([]++(tr.map cn).map ci)++[ci (j:Int)]=((tr++[j]).map cn).map ci:=by simp[cn]
       rw[e3] at hw3
       have kE:=ih (m - 1) (by omega) (d:=d+1) (g:=g3) (tr:=tr++[j]) (by rw[List.length_append,List.length_singleton];omega) (Nat.succ_pos d) (r1 g3.h) (hw3.intsV (by simp;omega)) hT2
       have hA:=hK (stE p zs x (v0::r) v0 j) p.length
       have hB:=hK (lP (Eg p) (Bt zs) x (tr++[j]).reverse) p.length
       simp only[sz,simprocAttr,h0,h2,h7,kE,el _ _ (show S.aa (stE p zs x (v0::r) v0 j) p.length<18446744073709551616 by omega) (show S.aa (lP (Eg p) (Bt zs) x (tr++[j]).reverse) p.length<18446744073709551616 by omega)]
       rw[Ad]
       have eq:S.aa (fun i=>stE p zs x (v0::r) v0 j i\/lP (Eg p) (Bt zs) x (tr++[j]).reverse i) p.length=S.aa (stE p zs x (v0::r) v0 (j+1)) p.length:=bO fun y _=>by
        rw[Bj ⟨hj2.1,(hmem j).2 hj2.2⟩,List.reverse_append,hr];rfl
       rw[eq]
       simp[St,sx,h0,h1,h2,h8,h9]
      ·have hbt:(b&&decide (j ∉ tr))=false:=by
        cases hq:(b&&decide (j ∉ tr)) with
        | false=>rfl
        | true =>
         rw[Bool.and_eq_true,decide_eq_true_iff] at hq
         exact absurd ⟨hadj.1 hq.1,hq.2⟩ hj2
       rw[hbt] at h10
       have eq:S.aa (stE p zs x (v0::r) v0 j) p.length=S.aa (stE p zs x (v0::r) v0 (j+1)) p.length:=bO fun y _=>(Da fun h=>hj2 ⟨h.1,(hmem j).1 h.2⟩).symm
       rw[eq] at h7
       simp only[sz,simprocAttr,fH,h10]
       simp[St,sx,h0,h1,h2,h7,h8,h9]
    ·rintro t df g ⟨rfl,h1,h2,h8,h7,-⟩ h0
     simp only[sz,simprocAttr,ji,h7]
     rw[hr,bO fun y _=>?_]
     rw[hr] at hTl
     rw[Az hTl]
     constructor
     ·rintro (h | ⟨w,-,h⟩)
      ·exact .inl h
      ·exact .inr ⟨w,h⟩
     ·rintro (h | ⟨w,h2,h⟩)
      ·exact .inl h
      ·exact .inr ⟨w,h2.elim (fun h=>(hE _ _ h).2) fun h=>(hE _ _ h).1,h2,h⟩
   have st0:S.aa (stE p zs x (v0::r) v0 0) p.length=if zs.testBit v0 then 0 else 2 ^ v0:=by
    cases hzb:zs.testBit v0 with
    | true =>
     rw[if_pos rfl]
     refine jy ?_
     rintro y - (⟨-,h⟩ | ⟨w,h,-⟩)
     ·exact h hzb
     ·omega
    | false =>
     rw[if_neg (by decide)]
     refine A_ hv0l fun y=>⟨?_,fun h=>.inl ⟨h,fun h'=>by have h':zs.testBit v0=true:=h';rw[hzb] at h';cases h'⟩⟩
     rintro (⟨h,-⟩ | ⟨w,h,-⟩)
     ·exact h
     ·omega
   have hsh:aX .shl (.int .u64 1) (.int .u64 (v0:Int))=.val (.int .u64 ((2 ^ v0:Nat):Int)):=by rw[aL,cy (by omega)]
   have ww:IntKind.wrap .u64 (v0:Int)=(v0:Int):=bo (by omega) (by omega)
   cases hzb:zs.testBit v0 with
   | true =>
    rw[hzb] at kI st0
    simp only[sz,simprocAttr,ez,kO,wl,w1,rt,z0,q0,ci,kI]
    exact rest _ (by simp[St,sx,st0])
   | false =>
    rw[hzb] at kI st0
    simp only[sz,simprocAttr,ez,kO,wl,w1,rt,z0,q0,ci,kI,ww,hsh]
    exact rest _ (by simp[St,sx,st0])
theorem C_ {xs zs:Nat}(h:xs &&& zs=0):∀x,Bt xs x->¬Bt zs x:=fun x h1 h2=>by
 have:=congrArg (·.testBit x) h
 have e1:xs.testBit x=true:=h1
 have e2:zs.testBit x=true:=h2
 simp[e1,e2] at this
theorem yu {d k:Nat}{g:G}{P:Nat->Prop}{v:AV}{p:List Nat}{xs zs:Nat}(hd:0<d)(hv:SlR P k g.h p v)(hG:GOk p)(hxs:xs<2 ^ p.length)(hzs:zs<2 ^ p.length)(hxz:xs &&& zs=0) :
  ay C0 d N.aE [v,.int .u64 (xs:Int),.int .u64 (zs:Int)] g=.val (.int .u64 (S.az p xs zs:Int)):=by
 obtain ⟨v',e,r1⟩:=cM hv d
 have h256:=jr hG.l8
 have h8:=hG.l8
 rw[mS]
 refine er oC (xs:=[v',.int .u64 (xs:Int),.int .u64 (zs:Int)]) (by simp only[aE,e,bL]) (by simp[h_]) hd ?_
 obtain ⟨st,hst⟩:∃st:Nat->Nat,st=fun j=>S.aa (fun y=>∃x,x<j/\Bt xs x/\lP (Eg p) (Bt zs) x [x] y) p.length:=⟨_,rfl⟩
 have hst0:st 0=0:=by rw[hst];exact jy (by rintro i - ⟨x,h,-⟩;omega)
 have hstl:∀j,st j<2 ^ p.length:=fun j=>by rw[hst];exact hK _ _
 have hstn:∀j,¬Bt xs j->st (j+1)=st j:=fun j hj=>by
  rw[hst]
  refine bO fun y _=>?_
  constructor
  ·rintro ⟨x,h1,h2,h3⟩
   by_cases e:x=j
   ·subst e;exact absurd h2 hj
   ·exact ⟨x,by omega,h2,h3⟩
  ·rintro ⟨x,h1,h⟩;exact ⟨x,by omega,h⟩
 have hsty:∀j,Bt xs j->st (j+1)=st j ||| S.aa (lP (Eg p) (Bt zs) j [j].reverse) p.length:=fun j hj=>by
  rw[hst,Ad]
  refine bO fun y _=>?_
  constructor
  ·rintro ⟨x,h1,h2,h3⟩
   by_cases e:x=j
   ·subst e;exact .inr h3
   ·exact .inl ⟨x,by omega,h2,h3⟩
  ·rintro (⟨x,h1,h⟩ | h)
   ·exact ⟨x,by omega,h⟩
   ·exact ⟨j,by omega,hj,h⟩
 have hfin:st p.length=S.az p xs zs:=by
  rw[hst]
  refine bO fun y _=>?_
  rw[C7 (BH hG.hp hG.ac) (C_ hxz)]
  constructor
  ·rintro ⟨x,-,h⟩;exact ⟨x,h⟩
  ·rintro ⟨x,h,h2⟩;exact ⟨x,kG hxs h,h,h2⟩
 clear hst
 simp only[sz,simprocAttr,h_]
 simp only[iG,ib]
 refine eh hv.1 (r1 .nil).len (fun j t df g=>df=[]/\St t [(1,.int .u64 (xs:Int)),(2,.int .u64 (zs:Int)),(7,.int .u64 (st j:Int))]) ⟨rfl,by simp[St,sx,hst0]⟩ (by simp[sx]) (by simp[sx]) (by decide)
  (by rintro j t df g v s (rfl | rfl | rfl | rfl | rfl | rfl | rfl)<;>simp[sx,St]) ?_ ?_
 ·rintro j t df g hj ⟨rfl,h1,h2,h7,-⟩ h8 h0
  have kI:∀g,ay C0 (d+1) N.aa [.int .u64 (xs:Int),.int .i64 (j:Int)] g=.val (.bool (xs.testBit j)):=fun g=>by rw[kH (Nat.succ_pos d) (by omega) (by omega),nj]
  cases hb:xs.testBit j with
  | true =>
   rw[hb] at kI
   have hB:=hK (lP (Eg p) (Bt zs) j [j].reverse) p.length
   have hA:=hstl j
   have kE:=fun (g:G) (h:g.h.get (g.nx - 1)=.cells 1 [[.int .i64 (j:Int)]] 0 false false) (hn:0<g.nx)=>BK hG.hp hG.l8 hzs hj (p.length) (d:=d+1) (g:=g) (tr:=[j]) (v:=v') (w:=.hsl (g.nx - 1) 0 0 1 none) (P2:=fun _=>True) (k2:=0) (by omega) (Nat.succ_pos d) (r1 g.h)
    (Own.intsV (b:=0) (l:=[(j:Int)]) (.inr ⟨g.nx - 1,0,false,by omega,by omega,rfl,h⟩) (by show 1<9223372036854775808;decide) |>.wd fun _ _=>⟨trivial,rfl⟩) .one
   have kE:=kE (g.new (.cells 1 [[.int .i64 (j:Int)]] 0 false false)) (by simp[H.get_put]) (by simp)
   simp only[G.new_nx,Nat.add_sub_cancel] at kE
   simp only[sz,simprocAttr,h0,h1,h2,h7,h8,kI,kE,el (st j) _ (by omega) (show S.aa (lP (Eg p) (Bt zs) j [j].reverse) p.length<18446744073709551616 by omega)]
   rw[<-hsty j hb]
   simp[St,sx,h1,h2]
  | false =>
   rw[hb] at kI
   simp only[sz,simprocAttr,h0,h1,h8,kI]
   rw[hstn j fun h=>by have h:xs.testBit j=true:=h;rw[hb] at h;cases h]
   simp[St,sx,h1,h2,h7]
 ·rintro t df g ⟨rfl,h1,h2,h7,-⟩ h0
  simp only[sz,simprocAttr,ic,h7]
  rw[hfin]
theorem xX {d k:Nat}{g:G}{P:Nat->Prop}{v:AV}{p:List Nat}{xs ys zs:Nat}(hd:0<d)(hv:SlR P k g.h p v)(hG:GOk p)(hxs:xs<2 ^ p.length)(hys:ys<2 ^ p.length)(hzs:zs<2 ^ p.length)(hxz:xs &&& zs=0) :
  ay C0 d N.aD [v,.int .u64 (xs:Int),.int .u64 (ys:Int),.int .u64 (zs:Int)] g=.val (.bool (decide (S.az p xs zs &&& ys=0))):=by
 obtain ⟨v',e,r1⟩:=cM hv d
 have h256:=jr hG.l8
 rw[mX]
 refine ef o6 (xs:=[v',.int .u64 (xs:Int),.int .u64 (ys:Int),.int .u64 (zs:Int)]) (by simp only[aE,e,bL]) (by simp[g7]) hd ?_
 have kR:=fun g=>yu (d:=d+1) (g:=g) (Nat.succ_pos d) (r1 g.h) hG hxs hzs hxz
 have hR:S.az p xs zs<2 ^ p.length:=hK _ _
 simp only[sz,simprocAttr,g7,kR,bS _ _ (show S.az p xs zs<18446744073709551616 by omega) (show ys<18446744073709551616 by omega)]
 have:decide (((S.az p xs zs &&& ys:Nat):Int)=0)=decide (S.az p xs zs &&& ys=0):=by
  by_cases h:S.az p xs zs &&& ys=0
  ·simp[h]
  ·have:¬((S.az p xs zs &&& ys:Nat):Int)=0:=by omega
   simp[h]
 rw[this]
theorem Dw {n x z a:Nat}:S.am n [x,z] a=true↔x<2 ^ n/\x &&& a=0/\z<2 ^ n/\z &&& (a ||| x)=0:=by
 simp[S.am,and_assoc]
theorem Do {n x y z:Nat}:S.am n [x,y,z] 0=true↔x<2 ^ n/\y<2 ^ n/\y &&& x=0/\z<2 ^ n/\z &&& (x ||| y)=0:=by
 simp[S.am,and_assoc]
theorem xR {a b:Nat}(h:a &&& b=0):b &&& a=0:=by rw[Nat.and_comm];exact h
theorem By {a b c:Nat}(h:a &&& (b ||| c)=0):a &&& b=0/\a &&& c=0:=by
 have k:∀i,(a.testBit i&&(b.testBit i || c.testBit i))=false:=fun i=>by
  rw[<-Nat.testBit_or,<-Nat.testBit_and,h,Nat.zero_testBit]
 constructor <;>
 ·refine Nat.eq_of_testBit_eq fun i=>?_
  have:=k i
  rw[Nat.testBit_and,Nat.zero_testBit]
  cases h1:a.testBit i<;>cases h2:b.testBit i<;>cases h3:c.testBit i<;>simp[h1,h2,h3] at this ⊢
theorem DC {g:G}{id:Nat}{l:List Nat}(h:g.h.get id=.cells 1 (l.map cu) 0 false false)(hi:id<g.nx)  (hl:l.length<9223372036854775808)(hb:∀y∈l,y<18446744073709551616):SlR (fun i=>some id=some i) 0 g.h l (.hsl id 0 0 l.length none) :=
 Own.natsV (b:=0) (v:=.hsl id 0 0 l.length none) (.inr ⟨id,0,false,Nat.zero_le _,hi,by simp,h⟩) hl hb
theorem pt {α:Type} [Rp α]{x:α}{k:Nat}{h h':H}{v:AV}(r:Agg x NoP k h v):Agg x NoP k h' v:=by
 obtain ⟨cs,rfl,r⟩:=r
 exact ⟨cs,rfl,Rp.tree r (Nat.le_refl _)⟩
structure GvJ (g0:G) (q:Nat) (s:Int) (h:H):Prop where
 fr:∀i,i<g0.nx->i≠q->h.get i=g0.h.get i
 hq:h.get q=.cells 1 [[.int .i64 s]] 0 false false
structure ND where
 c:Nat->Int
 P:Nat->List Int
 m:Nat->Nat
 R:Nat->Nat->List Int
 o:Nat->Nat
def LN (n:Nat)(D:ND):Ky->Prop:=fun k=>k=(0,0)\/∃i q,k=(i+1,q)/\i<n/\q<2+D.o i
def DK (D:ND)(V:Ky->AV)(i:Nat):List AV:=[.int .i64 (D.c i),V (i+1,0),V (i+1,1)]
def DM (V:Ky->AV)(i r:Nat):List AV:=[V (i+1,2+r)]
structure BN (K n:Nat) (V:Ky->AV) (E:Ky->En) (D:ND):Prop where
 ns:E (0,0)=.sl 3 ((List.range n).map (DK D V))
 ps:∀i,i<n->E (i+1,0)=.sl 1 ((D.P i).map ci)/\(D.P i).length<=K
 rs:∀i,i<n->E (i+1,1)=.sl 1 ((List.range (D.m i)).map (DM V i))/\D.m i<=K
 rr:∀i r,i<n->r<D.m i->(D.R i r).length<=K/\((r<D.o i/\E (i+1,2+r)=.sl 1 ((D.R i r).map ci))\/SlR NoP 0 .nil (D.R i r) (V (i+1,2+r)))
def ND.node (D:ND)(i:Nat):Node:=⟨D.c i,D.P i,(List.range (D.m i)).map (D.R i)⟩
def DJ (gr c:Int)(l:List Int):Prop:=(l.length:Int)=c/\(∀y∈l,0<=y/\y<=gr)/\l.sum=gr
def S.rq (gr s x:Int):Int:=gr*x / s
structure Rw1 (gr:Int) (nv u:AV) (C F j:Nat) (t:T) (g:G):Prop where
 st:St t [(0,.int .i64 gr),(1,.int .i64 (C:Int)),(2,nv),(3,.int .i64 (F:Int)),(9,u)]
 hX:∃(X:List Int) (s:Int),tat t 10=.int .i64 s/\X.length=C/\Own g 0 u 1 (X.map ci)/\(∀x∈X,0<=x/\x<=7)/\s=(X.take j).sum/\0<=s/\s<=7*j
structure Rw2 (gr s:Int) (u:AV) (C:Nat) (X:List Int) (j:Nat) (t:T) (g:G):Prop where
 st:St t [(0,.int .i64 gr),(1,.int .i64 (C:Int)),(9,u),(10,.int .i64 s)]
 hX:∃(la:Nat),tat t 12=.int .i64 (gr - ((X.take j).map (S.rq gr s)).sum)/\tat t 13=.int .i64 (la:Int)/\la<C/\Own g 0 u 1 (((X.take j).map (S.rq gr s)++X.drop j).map ci)
theorem oB (os:List UInt8):∀k,(S.aq os k).Perm ((List.range k).map fun i:Nat=>(i:Int))
 | 0=>.refl _
 | k+1=>by
  rw[List.range_succ,List.map_append,S.aq]
  refine List.perm_middle.trans ?_
  rw[List.take_append_drop]
  exact ((oB os k).cons _).trans (List.perm_append_comm (l₁:=[(k:Int)]))
structure Num (n:Nat) (pl:List Int) (num:Nat->Nat):Prop where
 len:pl.length=n
 at_:∀k,k<n->pl[k]?=some (num k:Int)
 lt:∀k,k<n->num k<n
 inj:∀i j,i<n->j<n->num i=num j->i=j
 sur:∀u,u<n->∃k,k<n/\num k=u
theorem C6 (os:List UInt8)(n:Nat):∃num,Num n (S.aq os n) num:=by
 have hp:=oB os n
 have hl:=jW os n
 have hmem:∀x∈S.aq os n,∃i:Nat,i<n/\x=(i:Int):=fun x hx=>by
  have:=hp.mem_iff.1 hx
  obtain ⟨i,hi,rfl⟩:=List.mem_map.1 this
  exact ⟨i,List.mem_range.1 hi,rfl⟩
 have hnd:(S.aq os n).Nodup:=by
  rw[hp.nodup_iff]
  refine List.Pairwise.map _ ?_ (List.nodup_range (n:=n))
  intro a b h e
  exact h (by omega)
 have hat:∀k,k<n->(S.aq os n)[k]?=some (((S.aq os n)[k]?.getD 0).toNat:Int)/\((S.aq os n)[k]?.getD 0).toNat<n:=fun k hk=>by
  have hk':k<(S.aq os n).length:=by omega
  have e:=List.getElem?_eq_getElem hk'
  obtain ⟨i,hi,h⟩:=hmem _ (List.getElem_mem hk')
  rw[e,Option.getD_some,h]
  simp[hi]
 refine ⟨fun k=>((S.aq os n)[k]?.getD 0).toNat,hl,fun k hk=>(hat k hk).1,fun k hk=>(hat k hk).2,fun i j hi hj h=>?_,fun u hu=>?_⟩
 ·have h1:=(hat i hi).1
  have h2:=(hat j hj).1
  refine (List.getElem?_inj (by omega) hnd).1 ?_
  rw[h1,h2]
  exact congrArg (fun x:Nat=>some (x:Int)) h
 ·have:(u:Int)∈S.aq os n:=hp.mem_iff.2 (List.mem_map.2 ⟨u,List.mem_range.2 hu,rfl⟩)
  obtain ⟨k,hk,he⟩:=List.mem_iff_getElem.1 this
  refine ⟨k,by omega,?_⟩
  rw[List.getElem?_eq_getElem hk,he];rfl
def LNX (X:Ky->Prop)(n:Nat)(D:ND):Ky->Prop:=fun k=>LN n D k\/X k
def X1:Ky->Prop:=fun k=>k=(0,1)
def X2:Ky->Prop:=fun k=>k=(0,1)\/k=(0,2)
structure DN (X:Ky->Prop) (r0:List AV) (n q K:Nat) (gr:Int) (V:Ky->AV) (E:Ky->En) (D:ND) (g:G):Prop where
 hp:Hp g 2 (LNX X n D) V E
 bn:BN K n V E D
 vb:V (0,1)=.hptr q 0 0 0
 bx:E (0,1)=.bx [.int .i64 gr,V (0,0)]
 h0:g.h.get 0=.cells 3 [r0] 0 false false
 h1:g.h.get 1=.cells 2 [[.int .i64 0,.nils]] 0 false false
structure NumI (n:Nat) (num:Nat->Nat) (Y:List Nat):Prop where
 l:Y.length=n
 b:∀i,i<n->∀u,(Par Y (num i)).testBit u=true->∃k,k<i/\u=num k
theorem xp {n:Nat}{num:Nat->Nat}:NumI n num (List.replicate n 0):=by
 refine ⟨by simp,fun i hi u h=>?_⟩
 have:Par (List.replicate n 0) (num i)=0:=by
  unfold Par
  rw[List.getElem?_replicate]
  split<;>rfl
 rw[this,Nat.zero_testBit] at h;cases h
theorem zt {n i k x:Nat}{num:Nat->Nat}{pl:List Int}{Y:List Nat}(hn:Num n pl num)(h:NumI n num Y)(hi:i<n)(hk:k<i)(hx:Y[num i]?=some x):NumI n num (Y.set (num i) (x ||| 2 ^ num k)):=by
 refine ⟨by simp[h.l],fun j hj u hu=>?_⟩
 have hil:=(List.getElem?_eq_some_iff.1 hx).1
 unfold Par at hu
 by_cases e:i=j
 ·subst e
  rw[List.getElem?_set_self hil,Option.getD_some,Nat.testBit_or,Bool.or_eq_true] at hu
  rcases hu with hu | hu
  ·exact h.b i hi u (by rw[Par,hx];exact hu)
  ·rw[Nat.testBit_two_pow,decide_eq_true_iff] at hu
   exact ⟨k,hk,hu.symm⟩
 ·rw[List.getElem?_set_ne fun e'=>e (hn.inj i j hi hj e')] at hu
  exact h.b j hj u hu
theorem y_ {n:Nat}{num:Nat->Nat}{pl:List Int}{Y:List Nat}(hn:Num n pl num)(h1:1<=n)(h8:n<=8)(h:NumI n num Y):GOk Y:=by
 have hp:∀x∈Y,x<2 ^ Y.length:=fun x hx=>by
  obtain ⟨v,hv,rfl⟩:=List.mem_iff_getElem.1 hx
  rw[h.l] at hv ⊢
  obtain ⟨i,hi,rfl⟩:=hn.sur v hv
  refine Nat.lt_pow_two_of_testBit _ fun u hu=>?_
  rw[<-Bool.not_eq_true]
  intro hb
  obtain ⟨k,hk,rfl⟩:=h.b i hi u (by rw[Par,List.getElem?_eq_getElem (by rw[h.l];exact hv)];exact hb)
  have:=hn.lt k (by omega)
  omega
 obtain ⟨rk,hrk⟩:∃rk:Nat->Nat,∀i,i<n->rk (num i)=i:=by
  have:∀v,∃r:Nat,∀i,i<n->num i=v->r=i:=fun v=>by
   by_cases hv:v<n
   ·obtain ⟨k,hk,e⟩:=hn.sur v hv
    exact ⟨k,fun i hi e'=>hn.inj k i hk hi (by rw[e,e'])⟩
   ·exact ⟨0,fun i hi e=>absurd (hn.lt i hi) (by omega)⟩
  exact ⟨fun v=>Classical.choose (this v),fun i hi=>Classical.choose_spec (this (num i)) i hi rfl⟩
 refine ⟨by rw[h.l];exact h1,by rw[h.l];exact h8,hp,rY hp (rk:=rk) fun u v e=>?_⟩
 have hv:=(j6 hp e).2
 rw[h.l] at hv
 obtain ⟨i,hi,rfl⟩:=hn.sur v hv
 obtain ⟨k,hk,rfl⟩:=h.b i hi u e
 rw[hrk i hi,hrk k (by omega)]
 exact hk
structure DAok (D:ND) (n i:Nat) (num:Nat->Nat):Prop where
 e:∀v,v<n->D.P v=[]/\D.m v=0
 c:∀k,k<i->D.c (num k)=2\/D.c (num k)=3
 o:∀u,D.o u=0
def LDA (n q:Nat)(r5:AV):List (Nat×AV):=[(1,.hptr 0 0 0 0),(2,.hptr 1 0 0 0),(3,.int .i64 (n:Int)),(4,.hptr q 0 0 0),(5,r5)]
structure DA (r0:List AV) (n q:Nat) (gr:Int) (r5:AV) (num:Nat->Nat) (i:Nat) (t:T) (g:G):Prop where
 st:St t (LDA n q r5)
 w:∃w:Nat,tat t 6=.int .i64 (w:Int)/\w<=3 ^ i
 hd:∃V E D,DN X1 r0 n q 1000 gr V E D g/\DAok D n i num
section
variable {κ:Type} [DecidableEq κ]{g:G}{b:Nat}{L:κ->Prop}{V:κ->AV}{E:κ->En}{k:κ}
end
theorem yh (m n:Nat):∃z:Nat,aX .shr (.int .u8 (m:Int)) (.int .u64 (n:Int))=.val (.int .u8 (z:Int)) :=
 ⟨m / 2 ^ (Nat.min n 8),rfl⟩
theorem xu (m n:Nat):∃z:Int,aX .and (.int .u8 (m:Int)) (.int .u8 (n:Int))=.val (.int .u8 z):=by
 have:∃z:Int,Op.intBits .and .u8 (.ofNat m) (.ofNat n)=.pure (.int .u8 z):=⟨_,rfl⟩
 obtain ⟨z,hz⟩:=this
 refine ⟨z,?_⟩
 show orV (jM (Op.intBits .and .u8 (.ofNat m) (.ofNat n)))=_
 rw[hz];rfl
structure DB (D:ND) (n i v:Nat) (num:Nat->Nat):Prop where
 c:∀u,u<n->D.c u=2\/D.c u=3
 p:∀u,u<n->(D.P u).length<=3/\∀y∈D.P u,0<=y/\y<n
 m:∀u,u<n->D.m u<=64
 o:∀u,D.o u=0
 f:∀k,i<k->k<n->D.P (num k)=[]/\D.m (num k)=0
def S.bB (P0:List Int)(c0:Nat->Int):Int:=S.aC (P0.map fun y=>c0 y.toNat)
structure DOk (gr:Int) (D:ND) (n i:Nat) (num:Nat->Nat):Prop where
 s:∀u,u<n->(D.P u).Pairwise (·<·)
 a:∀k,k<n->∀y∈D.P (num k),∃k',k'<k/\y=(num k':Int)
 w:∀k,k<i->(D.m (num k):Int)=S.bB (D.P (num k)) D.c
 r:∀u r,u<n->r<D.m u->DJ gr (D.c u) (D.R u r)
structure DP (r0 prow:List AV) (n q i p v:Nat) (gr:Int) (r5:AV) (num:Nat->Nat) (g:G) (V:Ky->AV) (E:Ky->En) (D:ND):Prop where
 dn:DN X2 r0 n q 1000 gr V E D g
 pb:V (0,2)=.hptr p 0 0 0/\E (0,2)=.bx prow
 db:DB D n i v num
 mv:D.m v=0
 ok:DOk gr D n i num
end
end Hx
end
section
namespace Hx
open Go
noncomputable section
abbrev rm:=List UInt8×List UInt8
def DF:VS:=fun P k h v=>∃p:List Nat,(GOk p/\p.length<=6)/\One p P k h v
def LGp (n:Nat)(u v:AV):List (Nat×AV):=[(1,.hptr 0 0 0 0),(3,.int .i64 (n:Int)),(4,u),(8,v)]
structure GD (a b u v:AV) (n:Nat) (num:Nat->Nat) (pl:List Int) (Y:List Nat) (g:G):Prop where
 h0:g.h.get 0=.cells 2 [[a,b]] 0 false false
 nu:Own g 1 u 1 (pl.map ci)
 ou:Own g 1 v 1 (Y.map cu)
 ne:∀i,vid u=some i->vid v≠some i
 ni:NumI n num Y
section
variable {d n:Nat}{a b u v:AV}{num:Nat->Nat}{pl:List Int}
theorem x_ {Q:QT}{t:T}{g:G}{Y:List Nat}{i:Nat}{ps:List UInt8}{rows:List (List AV)}(n6:n<=6)(hN:Num n pl num)(hi:i<n)(hip:i<ps.length)(ra:∀h,ax h 1 a=some rows)(rl:rows.length=ps.length)(rg:∀(k:Nat) (x:UInt8),ps[k]?=some x->rows[k]?=some [.int .u8 (x.toNat:Int)])
  (hD:GD a b u v n num pl Y g) (ht:St t ((9,.int .i64 (i:Int))::LGp n u v)) (h10:tat t 10=.int .i64 0) (h11:tat t 11=.int .i64 0)
  (fin:∀t g' Y',St t ((9,.int .i64 (i:Int))::LGp n u v)->GD a b u v n num pl Y' g'->g.nx<=g'.nx->Q (.exit 4) t [] g'):wpL (wp C0 d none ct) Q t [] g:=by
 simp only[ct,eB]
 refine od i (by omega) (fun k t df g'=>df=[]/\g.nx<=g'.nx/\St t ((9,.int .i64 (i:Int))::LGp n u v)/\(∃c:Int,0<=c/\c<=3/\tat t 10=.int .i64 c)/\∃Y',GD a b u v n num pl Y' g')
  ⟨rfl,Nat.le_refl _,ht,⟨0,by omega,by omega,h10⟩,Y,hD⟩ h11 (by decide)
  (by rintro k t df g v s (rfl | rfl | rfl) ⟨a1,a0,⟨b1,b2,b3,b4,b5,-⟩,⟨c,c1,c2,c3⟩,a2⟩<;>exact ⟨a1,a0,by simp[St,LGp,sx,b1,b2,b3,b4,b5],⟨c,c1,c2,by simp[sx,c3]⟩,a2⟩) ?_ ?_ ?_
 ·rintro k t df g' hk ⟨rfl,hn,⟨h9,h1,h3,h4,h8,-⟩,⟨c,c1,c2,h10⟩,Y',hD⟩ h11
  simp only[sz,simprocAttr,h9,h11]
  exact ⟨hn,by simp[St,LGp,sx,h1,h3,h4,h8,h9],⟨c,c1,c2,h10⟩,Y',hD⟩
 ·rintro k t df g1 hk ⟨rfl,hn,⟨h9,h1,h3,h4,h8,-⟩,⟨c,c1,c2,h10⟩,Y',hD⟩ h11
  obtain ⟨x,hx⟩:∃x,ps[i]?=some x:=⟨_,List.getElem?_eq_getElem hip⟩
  have hx8:x.toNat<256:=x.toNat_lt
  have hrx:=rg i x hx
  have hlt:i<rows.length:=by omega
  obtain ⟨z1,s1⟩:=yh x.toNat k
  obtain ⟨z2,s2⟩:=xu z1 1
  have s2:aX .and (.int .u8 (z1:Int)) (.int .u8 1)=.val (.int .u8 z2):=s2
  have wk:IntKind.wrap .u64 (k:Int)=(k:Int):=bo (by omega) (by omega)
  have lg1:aB (.cells 2 [[a,b]] 0 false false) 0 0 false 1 0=.val a:=rfl
  have ry:pB a=true:=rH (ra .nil) hlt
  by_cases e1:z2=1
  ·by_cases e2:c<3
   ·subst e1
    have hpl:=hN.at_ i hi
    have hpk:=hN.at_ k (by omega)
    have hnl:=hN.lt i hi
    have hkl:=hN.lt k (by omega)
    have q1:(pl.map ci)[i]?=some (ci (num i:Int)):=by rw[List.getElem?_map,hpl];rfl
    have q2:(pl.map ci)[k]?=some (ci (num k:Int)):=by rw[List.getElem?_map,hpk];rfl
    have z1:i<(pl.map ci).length:=by rw[List.length_map,hN.len];exact hi
    have z2:k<(pl.map ci).length:=by rw[List.length_map,hN.len];omega
    have rn:=hD.nu.rows
    have ro:=hD.ou.rows
    obtain ⟨y,hy⟩:∃y,Y'[num i]?=some y:=⟨_,List.getElem?_eq_getElem (by rw[hD.ni.l];exact hnl)⟩
    have q3:(Y'.map cu)[num i]?=some (cu y):=by rw[List.getElem?_map,hy];rfl
    have z3:num i<(Y'.map cu).length:=by rw[List.length_map,hD.ni.l];exact hnl
    have hG:=y_ hN (by omega) (by omega) hD.ni
    have hyl:y<18446744073709551616:=by
     have:=hG.hp y (List.mem_of_getElem? hy)
     have:=jr hG.l8
     omega
    have hsh:aX .shl (.int .u64 1) (.int .u64 (num k:Int))=.val (.int .u64 ((2 ^ num k:Nat):Int)):=by rw[aL,cy (by omega)]
    have h2k:(2:Nat) ^ num k<=2 ^ 6:=Nat.pow_le_pow_right (by decide) (by omega)
    have wn:IntKind.wrap .u64 (num k:Int)=(num k:Int):=bo (by omega) (by omega)
    have wc:IntKind.wrap .i64 (c+1)=c+1:=dR (by omega) (by omega)
    have hni:=zt hN hD.ni hi hk hy
    simp only[sz,simprocAttr,sf,h1,h4,h8,h9,h10,h11,hD.h0,lg1,ra,hlt,hrx,ry,wk,s1,s2,e2,rn,ro,q1,q2,q3,z1,z2,z3,ci,cu,wn,hsh,el y _ hyl (show (2:Nat) ^ num k<18446744073709551616 by omega)]
    refine qL (v:=v) (sz:=1) (n:=1) (i:=num i) (off:=0) (x:=.int .u64 ((y ||| 2 ^ num k:Nat):Int)) (row':=cu (y ||| 2 ^ num k)) (hD.ou.fr (by simp;omega) fun i _=>by simp) q3 rfl rfl rfl fun g4 hu4 n4 f4=>?_
    rw[show ((Y'.map cu).set (num i) (cu (y ||| 2 ^ num k)))=(Y'.set (num i) (y ||| 2 ^ num k)).map cu from by rw[<-List.map_set]] at hu4
    have f4':∀i,vid v≠some i->g4.h.get i=g1.h.get i:=fun i hi=>by rw[f4 i hi];simp
    have n4':g1.nx<=g4.nx:=by rw[n4];simp;omega
    simp only[sz,simprocAttr,h10,wc]
    refine ⟨?_,?_⟩
    ·simp only[List.reverse_cons,List.reverse_nil,List.nil_append,List.cons_append]
     exact cY [false,false,false,false,false,false,false,false,false,false,false,false,false,false,false,false,false,false,false,false,true] [] (by simp[All2,ak,aK]) (by decide) (by simp)
    refine ⟨⟨by omega,by simp[St,LGp,sx,h1,h3,h4,h8,h9],⟨c+1,by omega,by omega,rfl⟩,_,⟨?_,?_,?_,hD.ne,hni⟩⟩,h11⟩
    ·simp only[bumpG_h]
     rw[f4' 0 fun e=>by have:=(hD.ou.lt e).1;omega,hD.h0]
    ·exact hD.nu.fr (by simp;omega) fun i hi=>by simp only[bumpG_h];exact f4' i (hD.ne i hi)
    ·exact hu4.fr (by simp) fun i _=>by simp
   ·simp only[sz,simprocAttr,h1,h8,h9,h10,h11,hD.h0,lg1,ra,hlt,hrx,ry,wk,s1,s2,e1,e2]
    exact ⟨hn,by simp[St,LGp,sx,h1,h3,h4,h8,h9],⟨c,c1,c2,rfl⟩,Y',hD⟩
  ·simp only[sz,simprocAttr,h1,h8,h9,h11,hD.h0,lg1,ra,hlt,hrx,ry,wk,s1,s2,e1]
   exact ⟨hn,by simp[St,LGp,sx,h1,h3,h4,h8,h9],⟨c,c1,c2,h10⟩,Y',hD⟩
 ·rintro t df g' ⟨rfl,hn,ht,-,Y',hD⟩
  exact fin t g' Y' ht hD hn
theorem xK {Q:QT}{t:T}{g:G}{Y:List Nat}{ps:List UInt8}{rows:List (List AV)}(n6:n<=6)(hN:Num n pl num)(al:∀g,e8 .slice a g=.val (.int .i64 (ps.length:Int)))(ra:∀h,ax h 1 a=some rows)(rl:rows.length=ps.length)(rg:∀(k:Nat) (x:UInt8),ps[k]?=some x->rows[k]?=some [.int .u8 (x.toNat:Int)])
  (hD:GD a b u v n num pl Y g) (ht:St t (LGp n u v)) (h9:tat t 9=.int .i64 0)
  (fin:∀t g' Y',St t (LGp n u v)->GD a b u v n num pl Y' g'->Q (.exit 2) t [] g'):wpL (wp C0 d none cA) Q t [] g:=by
 simp only[cA,eF]
 have lg1:aB (.cells 2 [[a,b]] 0 false false) 0 0 false 1 0=.val a:=rfl
 refine od (min n ps.length) (by omega) (fun i t df g'=>df=[]/\St t (LGp n u v)/\∃Y',GD a b u v n num pl Y' g')
  ⟨rfl,ht,Y,hD⟩ h9 (by decide)
  (by rintro k t df g v s (rfl | rfl | rfl) ⟨a1,⟨b1,b2,b3,b4,-⟩,a2⟩<;>exact ⟨a1,by simp[St,LGp,sx,b1,b2,b3,b4],a2⟩) ?_ ?_ ?_
 ·rintro i t df g' hk ⟨rfl,⟨h1,h3,h4,h8,-⟩,Y',hD⟩ h9
  by_cases c1:i<n
  ·simp only[sz,simprocAttr,h1,h3,h9,hD.h0,lg1,al,show (i:Int)<(n:Int) from by omega]
   refine ⟨?_,by simp[St,LGp,sx,h1,h3,h4,h8],Y',hD⟩
   congr 1
   exact decide_eq_decide.2 (by omega)
  ·simp only[sz,simprocAttr,h3,h9,show ¬(i:Int)<(n:Int) from by omega]
   refine ⟨?_,by simp[St,LGp,sx,h1,h3,h4,h8],Y',hD⟩
   congr 1
   exact (decide_eq_false (by omega)).symm
 ·rintro i t df g1 hk ⟨rfl,⟨h1,h3,h4,h8,-⟩,Y',hD⟩ h9
  simp only[sz,simprocAttr]
  refine x_ (i:=i) (ps:=ps) n6 hN (by omega) (by omega) ra rl rg hD (by simp[St,LGp,sx,h1,h3,h4,h8,h9]) (by simp[sx]) (by simp[sx]) ?_
  rintro t g' Y' ⟨h9,ht⟩ hD hn
  simp only[sz,simprocAttr]
  exact ⟨⟨ht,Y',hD⟩,h9⟩
 ·rintro t df g' ⟨rfl,ht,Y',hD⟩
  exact fin t g' Y' ht hD
theorem yw {Q:QT}{t:T}{g:G}{os:List UInt8}{rows:List (List AV)}(n6:n<=6)(bl:∀g,e8 .slice b g=.val (.int .i64 (os.length:Int)))(rb:∀h,ax h 1 b=some rows)(rl:rows.length=os.length)(rg:∀(k:Nat) (x:UInt8),os[k]?=some x->rows[k]?=some [.int .u8 (x.toNat:Int)])
  (h0:g.h.get 0=.cells 2 [[a,b]] 0 false false) (hn1:1<=g.nx) (ht:St t [(1,.hptr 0 0 0 0),(3,.int .i64 (n:Int)),(4,.nils)]) (h5:tat t 5=.int .i64 0)
  (fin:∀t g' u,St t [(1,.hptr 0 0 0 0),(3,.int .i64 (n:Int)),(4,u)]->g'.h.get 0=.cells 2 [[a,b]] 0 false false->1<=g'.nx->Own g' 1 u 1 ((S.aq os n).map ci)->Q (.exit 0) t [] g'):wpL (wp C0 d none cq) Q t [] g:=by
 simp only[cq,eo]
 have lg2:aB (.cells 2 [[a,b]] 0 false false) 0 0 false 1 1=.val b:=rfl
 refine od n (by omega) (fun j t df g=>df=[]/\g.h.get 0=.cells 2 [[a,b]] 0 false false/\1<=g.nx/\∃u,St t [(1,.hptr 0 0 0 0),(3,.int .i64 (n:Int)),(4,u)]/\Own g 1 u 1 ((S.aq os j).map ci))
  ⟨rfl,h0,hn1,.nils,ht,.inl ⟨rfl,rfl⟩⟩ h5 (by decide)
  (by rintro k t df g v s (rfl | rfl | rfl) ⟨a1,a2,a3,u,⟨b1,b2,b3,-⟩,a4⟩<;>exact ⟨a1,a2,a3,u,by simp[St,sx,b1,b2,b3],a4⟩) ?_ ?_ ?_
 ·rintro j t df g hj ⟨rfl,hg,hnx,u,⟨h1,h3,h4,-⟩,hu⟩ h5
  simp only[sz,simprocAttr,h3,h5]
  exact ⟨hg,hnx,u,by simp[St,sx,h1,h3,h4],hu⟩
 ·rintro j t df g hj ⟨rfl,hg,hnx,u,⟨h1,h3,h4,-⟩,hu⟩ h5
  have hpl:((S.aq os j).map ci).length=j:=by rw[List.length_map,jW]
  have hle:S.aI os j<=j:=by
   unfold S.aI;split
   ·have:=Nat.mod_lt ((os[j]?.map UInt8.toNat).getD 0) (show 0<j+1 by omega);omega
   ·omega
  have key:∀(t:T) (Q:QT),St t [(1,.hptr 0 0 0 0),(3,.int .i64 (n:Int)),(4,u)]->tat t 5=.int .i64 (j:Int)->tat t 6=.int .i64 (S.aI os j:Int) ->
    (∀(t':T) (g':G),(∃u,St t' [(1,.hptr 0 0 0 0),(3,.int .i64 (n:Int)),(4,u)]/\Own g' 1 u 1 ((S.aq os (j+1)).map ci))->tat t' 5=.int .i64 (j:Int)->g'.h.get 0=.cells 2 [[a,b]] 0 false false->1<=g'.nx->Q .norm t' [] g') ->
    wp C0 d none cC Q t [] g:=by
   rintro t Q ⟨h1,h3,h4,-⟩ h5 h6 kk
   obtain ⟨y1,s1,w1⟩:=u_ hu (n:=S.aI os j) (by omega)
   simp only[sz,simprocAttr,cC,h4,h6,List.head?_nil,List.head?_cons,s1]
   refine eU (rows:=[]) (b:=1) (.inl ⟨rfl,rfl⟩) w1 hnx (by simp[eI];omega) fun v1 g1 hv1 n1 f1 vid1 _=>?_
   simp only[sz,simprocAttr,h5]
   refine eU (new:=[ci (j:Int)]) (hv1.step (Fr.new _ _)) (by simp[sx,sy,ci]) (by simp) (by simp[eI,jW];omega) fun v2 g2 hv2 n2 f2 vid2 _=>?_
   have hu1:Own g1 1 u 1 ((S.aq os j).map ci):=hu.fr n1 fun i hi=>f1 i (hu.lt hi).2 (by simp[vid])
   have hnv:∀i,i<g.nx->vid v1≠some i:=fun i hi e=>by
    rcases vid1 with h | ⟨i',h,hi'⟩
    ·rw[h] at e;cases e
    ·rw[h] at e;injection e with e;omega
   have hu2:Own g2 1 u 1 ((S.aq os j).map ci):=hu1.fr (by simp at n2;omega) fun i hi=>by
    have hlt:=(hu.lt hi).2
    rw[f2 i (by simp;omega) (hnv i hlt),G.new_h,cU _ _ _ (by omega)]
   obtain ⟨y2,s2,w2⟩:=uS hu2 (n:=S.aI os j) (by omega)
   simp only[sz,simprocAttr,h4,h6,List.head?_nil,List.head?_cons,s2]
   refine eU hv2 w2 (by simp at n2;omega) (by simp[eI,jW];omega) fun v3 g3 hv3 n3 f3 _ _=>?_
   simp only[sz,simprocAttr]
   refine kk _ _ ⟨v3,by simp[St,sx,h1,h3],?_⟩ (by simp[sx,h5]) ?_ (by simp at n2;omega)
   ·simpa [S.aq,List.map_take,List.map_drop] using hv3
   ·rw[f3 0 (by simp at n2;omega) (fun e=>by have:=(hv2.lt e).1;omega),f2 0 (by simp) (hnv 0 (by omega)),G.new_h,cU _ _ _ (by omega),f1 0 (by omega) (by simp[vid]),hg]
  by_cases hb:j<os.length
  ·obtain ⟨y,hy⟩:∃y,os[j]?=some y:=⟨_,List.getElem?_eq_getElem hb⟩
   have z1:=rg j y hy
   have hy8:y.toNat<256:=y.toNat_lt
   have hlt:j<rows.length:=by omega
   have ry:pB b=true:=rH (rb .nil) hlt
   have hat:((S.aI os j:Nat):Int)=(y.toNat:Int) % ((j:Int)+1):=by
    unfold S.aI;rw[if_pos hb,hy];simp
   simp only[sz,simprocAttr,h1,h5,hg,lg2,bl,show (j:Int)<(os.length:Int) from by omega,rb,hlt,z1,ry,dR (show -9223372036854775808<=(y.toNat:Int) by omega) (show (y.toNat:Int)<9223372036854775808 by omega),dR (show -9223372036854775808<=(j:Int)+1 by omega) (show (j:Int)+1<9223372036854775808 by omega),rO .i64 (show (0:Int)<=(y.toNat:Int) by omega) (show 0<(j:Int)+1 by omega)]
   refine key _ _ (by simp[St,sx,h1,h3,h4]) (by simp[sx,h5]) (by simp[sx,hat]) fun t' g' eu e5 e0 en=>?_
   simp only[sy,e5,e0]
   exact ⟨en,eu⟩
  ·have hat:S.aI os j=0:=by unfold S.aI;rw[if_neg hb]
   simp only[sz,simprocAttr,h1,h5,hg,lg2,bl,show ¬(j:Int)<(os.length:Int) from by omega]
   refine key _ _ (by simp[St,sx,h1,h3,h4]) (by simp[sx,h5]) (by simp[sx,hat]) fun t' g' eu e5 e0 en=>?_
   simp only[sy,e5,e0]
   exact ⟨en,eu⟩
 ·rintro t df g ⟨rfl,hg,hnx,u,ht,hu⟩
  exact fin t g u ht hg hnx hu
theorem x9 {k:Nat}{g:G}{P:Nat->Prop}{v:AV}{x:rm}(hd:0<d)(hm:Agg x P k g.h v) :
  ∃r,ay C0 d N.aN [v] g=.val r/\DF NoP 0 .nil r:=by
 obtain ⟨v',e,cs,rfl,hc⟩:=zD (sA x) (by decide) d hm
 obtain ⟨_,_,rfl,hA',hB'⟩:=eL.1 hc
 obtain ⟨a,rfl,hA⟩:=aY.1 hA'
 obtain ⟨b,rfl,hB⟩:=aY.1 hB'
 obtain ⟨rows,r1,r2,r3,r4⟩:=hB.all
 have r1:∀h',ax h' 1 b=some rows:=r1
 obtain ⟨rows2,q1,q2,q3,q4⟩:=hA.all
 have q1:∀h',ax h' 1 a=some rows2:=q1
 have rg:∀(k:Nat) (y:UInt8),x.2[k]?=some y->rows[k]?=some [.int .u8 (y.toNat:Int)]:=fun k y hy=>by
  obtain ⟨row,z1,z2⟩:=r3 k y hy
  rw[z1,z7.1 z2]
 have qg:∀(k:Nat) (y:UInt8),x.1[k]?=some y->rows2[k]?=some [.int .u8 (y.toNat:Int)]:=fun k y hy=>by
  obtain ⟨row,z1,z2⟩:=q3 k y hy
  rw[z1,z7.1 z2]
 obtain ⟨n,hn⟩:∃n,n=min (max x.1.length 1) 6:=⟨_,rfl⟩
 have n1:1<=n:=by omega
 have n6:n<=6:=by omega
 obtain ⟨num,hN⟩:=C6 x.2 n
 rw[iN]
 refine gX jJ (xs:=[.agg ([a]++[b])]) (by simp only[aE,e]) (by simp[dw]) (q9 fun o=>gW _) (by decide) hd ?_
 have lg1:aB (.cells 2 [[a,b]] 0 false false) 0 0 false 1 0=.val a:=rfl
 simp only[sz,simprocAttr,dw,eP,List.cons_append,List.nil_append,lg1,hA.len]
 have en:min (max (x.1.length:Int) 1) 6=(n:Int):=by omega
 rw[en]
 refine yw (a:=a) (b:=b) (n:=n) (os:=x.2) n6 hB.len r1 r2 rg (by simp[sx]) (by simp) (by simp[St,sx]) (by simp[sx]) ?_
 rintro t g u ⟨h1,h3,h4,-⟩ g0 hnx hu
 simp only[sz,simprocAttr,eD,h3]
 refine vI (b:=1) (n:=n) (bytes:=8) (sz:=1) (zero:=[.int .u64 0]) (by unfold eI;omega) (by unfold eI;omega) hnx fun w g1 hw n1' f1 hvid=>?_
 have hN0:NumI n num (List.replicate n 0):=xp
 have e0:(List.replicate n [AV.int .u64 0])=(List.replicate n 0).map cu:=by rw[List.map_replicate];rfl
 rw[e0] at hw
 have hD:GD a b u w n num (S.aq x.2 n) (List.replicate n 0) g1:=⟨by rw[f1 0 (by omega),g0],hu.fr (by omega) fun i hi=>f1 i (hu.lt hi).2,hw,fun i hi e=>by rw[hvid] at e;injection e with e;have:=(hu.lt hi).2;omega,hN0⟩
 simp only[sz,simprocAttr]
 refine xK (ps:=x.1) n6 hN hA.len q1 q2 qg hD (by simp[St,LGp,sx,h1,h3,h4]) (by simp[sx]) ?_
 rintro t g' Y' ⟨-,-,-,h8,-⟩ hD
 simp only[sz,simprocAttr,ed,h8]
 have hG:=y_ hN n1 (by omega) hD.ni
 refine ⟨fun _=>True,Y',⟨hG,by rw[hD.ni.l];exact n6⟩,_,rfl,hD.ou.nats' (by rw[hD.ni.l];omega) fun y hy=>?_⟩
 have:=hG.hp y hy
 have:=jr hG.l8
 omega
end
end
end Hx
end
section
namespace Hx
open Go
noncomputable section
theorem Cx {w:AV}{l:List Nat}(hw:SlR NoP 0 .nil l w)(hr:Raw w){c:Nat}(hc:c<=l.length) :
  ∃w',(∀g,sT 1 w none (some (.int .i64 (c:Int))) g=.val w')/\SlR NoP 0 .nil (l.take c) w'/\Raw w':=by
 have hlt:(l.take c).length<9223372036854775808:=by have:=hw.1;rw[List.length_take];omega
 rcases hr with rfl | ⟨rows,rfl⟩
 ·have hl:l=[]:=hw.2
  subst hl
  have:c=0:=by simpa using hc
  subst this
  exact ⟨.nils,fun g=>rfl,⟨hlt,by simp[SlV]⟩,.inl rfl⟩
 ·obtain ⟨h0,h1,h2⟩:=(show 0<=0/\(1=Rp.sz Nat\/rows=[])/\All2 (Rp.rp NoP 0 .nil) l rows from hw.2)
  have hlen:=h2.len
  refine ⟨.tsl 0 1 (rows.take c),fun g=>?_,⟨hlt,?_⟩,.inr ⟨_,rfl⟩⟩
  ·show orV (match aN (aR rows) (aR rows) (some (.int .i64 (.ofNat c))) with
    | none=>none
    | some h=>match aN 0 h none with
     | none=>none
     | some l=>af (Nat.beq 1 1) (some (.tsl 0 1 (eO (h - l) (ej l rows)))) none)=_
   have:aN (aR rows) (aR rows) (some (.int .i64 (.ofNat c)))=some c:=by
    show af (Nat.ble c (aR rows)) (some c) none=_
    rw[aa,if_pos]
    rw[am,<-hlen];simp;omega
   rw[this]
   show orV (af (Nat.beq 1 1) (some (AV.tsl 0 1 (eO (c - 0) (ej 0 rows)))) none)=_
   rw[show Nat.beq 1 1=true from rfl,bif'_true,aT,aU,List.drop_zero,Nat.sub_zero];rfl
  ·exact ⟨Nat.le_refl _,h1.elim .inl (fun h=>.inr (by rw[h];simp)),h2.take c⟩
def GsV:VS:=fun P k h v=>∃y:List Nat×List Nat,True/\Agg y P k h v
theorem Dh:Snb GsV 1:=q9 fun o=>sA _
theorem ve {d:Nat}{g:G}{x:rm}{raw:List Nat}{w:AV}{xs:List AV}(hd:0<d)(hx:Rp.rp NoP 0 .nil x xs)(hw:SlR NoP 0 .nil raw w)(hr:Raw w) :
  ∃r,ay C0 d N.aB [w,.agg xs] g=.val r/\GsV NoP 0 .nil r:=by
 have hm:∀h,Agg x NoP 0 h (.agg xs):=fun h=>⟨_,rfl,Rp.tree hx (Nat.le_refl _)⟩
 have e1:=mq d (hm g.h)
 have e2:=su (h:=g.h) d (hw.tree (Nat.le_refl 0))
 obtain ⟨_,_,rfl,ha',hb'⟩:=eL.1 hx
 obtain ⟨a,rfl,-⟩:=aY.1 ha'
 obtain ⟨b,rfl,-⟩:=aY.1 hb'
 rw[mD]
 refine gX nU (xs:=[w,.agg ([a]++[b])]) (by simp only[aE,e1,e2]) (by simp[gm]) Dh (by decide) hd ?_
 obtain ⟨w1,s1,hw1,hr1⟩:=Cx hw hr (c:=min raw.length 9) (by omega)
 obtain ⟨w2,s2,hw2,-⟩:=Cx hw1 hr1 (c:=0) (by omega)
 have mn9:min (raw.length:Int) 9=((min raw.length 9:Nat):Int):=by omega
 have s2:∀g,sT 1 w1 none (some (.int .i64 0)) g=.val w2:=s2
 have lw:=hw.len
 have lw1:=hw1.len
 have kR:=fun g:G=>qr (d:=d+1) (g:=g) (Nat.succ_pos d) (hw1.tree (h':=g.h) (Nat.le_refl 0))
 have ld:aB (.cells 2 [[a,b]] 0 false false) 0 0 true 2 0=.val (.agg [a,b]):=rfl
 have rest:∀(t:T) (g:G) (wl:AV) (l:List Nat),SlR NoP 0 .nil l wl->St t [(0,wl),(3,.hptr 0 0 0 0),(4,.hptr 1 0 0 0)]->g.h.get 0=.cells 2 [[a,b]] 0 false false->g.h.get 1=.cells 2 [[.nils,.nils]] 0 false false ->
   wp C0 (d+1) none d_ (fnQ C0 (d+1) [SR.cell true 2 4] fun v g'=>∃P,GsV P 0 g'.h v) t [] g:=by
  rintro t g wl l hwl ⟨h0,h3,h4,-⟩ g0 g1
  simp only[sz,simprocAttr,d_,h0,h3,g0,ld]
  refine q_ (x9 (Nat.succ_pos d) (hm _)) ?_
  rintro z ⟨p,-,hz⟩
  have hz:SlR NoP 0 .nil p z:=by
   obtain ⟨z',e,hz'⟩:=aY.1 hz
   injection e with e
   subst e
   exact hz'
  have fw:fm [.nils,.nils] [((0,1),wl),((1,1),z)]=some [wl,z]:=by
   simp[fm,hwl.cell,hz.cell,jK]
   rfl
  simp only[sz,simprocAttr,h4,g1,fw]
  exact ⟨fun _=>True,(l,p),trivial,_,rfl,eL.2 ⟨[wl],[z],rfl,aY.2 ⟨_,rfl,hwl.wide (Nat.le_refl 0)⟩,aY.2 ⟨_,rfl,hz.wide (Nat.le_refl 0)⟩⟩⟩
 simp only[sz,simprocAttr,gm,ie,List.cons_append,List.nil_append,lw,mn9,List.head?_nil,List.head?_cons,s1,kR]
 cases S.aB (raw.take (min raw.length 9)) with
 | false =>
  simp only[sz,simprocAttr]
  exact rest _ _ w1 _ hw1 (by simp[St,sx]) (by simp[sx,H.get_put]) (by simp[sx,H.get_put])
 | true =>
  simp only[sz,simprocAttr,lw1]
  by_cases c:(6:Int)<((raw.take (min raw.length 9)).length:Int)
  ·simp only[sz,simprocAttr,c,List.head?_nil,List.head?_cons,s2]
   exact rest _ _ w2 _ hw2 (by simp[St,sx]) (by simp[sx,H.get_put]) (by simp[sx,H.get_put])
  ·simp only[sz,simprocAttr,c]
   exact rest _ _ w1 _ hw1 (by simp[St,sx]) (by simp[sx,H.get_put]) (by simp[sx,H.get_put])
theorem sS (g:G):ay C0 1 N.aT [] g=.val (.bool true):=by kernel_rfl
theorem zm {a b:Nat}:a &&& b=0↔∀v,¬(Bt a v/\Bt b v):=by
 rw[<-Classical.not_not (a:=a &&& b=0)]
 show ¬(a &&& b≠0)↔_
 rw[rK]
 exact ⟨fun h v hv=>h ⟨v,hv⟩,fun h ⟨v,hv⟩=>h v hv⟩
theorem BQ {a b v:Nat}:Bt (a ^^^ (a &&& b)) v↔Bt a v/\¬Bt b v:=by
 rw[Bt,Nat.testBit_xor,Nat.testBit_and]
 unfold Bt
 cases a.testBit v<;>cases b.testBit v<;>simp
theorem A7 {a b n:Nat}(h:a<2 ^ n):a ^^^ (a &&& b)<2 ^ n:=Nat.xor_lt_two_pow h (Nat.lt_of_le_of_lt Nat.and_le_left h)
def Apt (p:List Nat)(x y z:Nat):Prop:=∀v,Bt y v->¬Re (Eg p) (Bt z) (Bt x) v
theorem Ba {p:List Nat}{x y z:Nat}(hy:y<2 ^ p.length):S.aa (Re (Eg p) (Bt z) (Bt x)) p.length &&& y=0↔Apt p x y z:=by
 rw[zm]
 constructor
 ·intro h v hv hr
  exact h v ⟨eJ.2 ⟨kG hy hv,hr⟩,hv⟩
 ·rintro h v ⟨h1,h2⟩
  exact h v h2 (eJ.1 h1).2
def S.aM (x:Nat):Nat->Nat
 | 0=>0
 | k+1=>S.aM x k+(if x.testBit k then 1 else 0)
def S.ae (x:Nat):Nat:=S.aM x 8
def S.ay (set:Nat):List Nat:=(List.range 256).filter fun s=>decide (s &&& set=s)
def S.aT (set part:Nat):Nat:=(part+(18446744073709551616 - set)) % 18446744073709551616 &&& set
def S.aR (set:Nat):List Nat->Bool
 | []=>false
 | [a]=>decide (a=set)
 | a::b::r=>decide (a≠set)&&decide (S.aT set a=b)&&S.aR set (b::r)
theorem uH:∀set:Nat,set<256->S.aR set (S.ay set)=true/\(S.ay set)[0]?=some 0:=by decide +kernel
theorem sW:∀{l:List Nat} {set:Nat},S.aR set l=true->∀j a,l[j]?=some a->(a=set↔j+1=l.length)/\(a≠set->l[j+1]?=some (S.aT set a))
 | [],_,h,_,_,_=>by cases h
 | [b],set,h,0,a,e=>by
  simp at e
  subst e
  rw[S.aR,decide_eq_true_iff] at h
  exact ⟨⟨fun _=>rfl,fun _=>h⟩,fun h'=>absurd h h'⟩
 | [b],set,h,j+1,a,e=>by simp at e
 | b::c::r,set,h,0,a,e=>by
  simp at e
  subst e
  simp only[S.aR,Bool.and_eq_true,decide_eq_true_iff] at h
  exact ⟨⟨fun h'=>absurd h' h.1.1,fun h'=>by simp at h'⟩,fun _=>by rw[h.1.2];rfl⟩
 | b::c::r,set,h,j+1,a,e=>by
  simp only[S.aR,Bool.and_eq_true,decide_eq_true_iff] at h
  obtain ⟨h1,h2⟩:=sW h.2 j a (by simpa using e)
  refine ⟨?_,fun h'=>by simpa using h2 h'⟩
  rw[h1]
  simp
theorem mB {set s:Nat}(hs:set<256):s∈S.ay set↔s &&& set=s:=by
 rw[S.ay,List.mem_filter,List.mem_range,decide_eq_true_iff]
 constructor
 ·exact fun h=>h.2
 ·intro h
  have:s<=set:=by rw[<-h];exact Nat.and_le_right
  exact ⟨by omega,h⟩
theorem B1 {set i j a b:Nat}(h1:(S.ay set)[i]?=some a)(h2:(S.ay set)[j]?=some b)(hab:a<b):i<j:=by
 have hp:(S.ay set).Pairwise (·<·):=List.pairwise_lt_range.filter _
 rw[List.pairwise_iff_getElem] at hp
 obtain ⟨hi,rfl⟩:=List.getElem?_eq_some_iff.1 h1
 obtain ⟨hj,rfl⟩:=List.getElem?_eq_some_iff.1 h2
 rcases Nat.lt_or_ge i j with h | h
 ·exact h
 ·rcases Nat.eq_or_lt_of_le h with e | h
  ·subst e;omega
  ·have:=hp j i hj hi h
   omega
def nI (p:List Nat)(x y s:Nat):Prop:=s<2 ^ p.length/\s &&& (2 ^ x ||| 2 ^ y)=0/\Apt p (2 ^ x) (2 ^ y) s
def LsP (p:List Nat)(x y s:Nat):Prop:=nI p x y s/\S.ae s<p.length/\∀s',nI p x y s'->S.ae s<S.ae s'\/(S.ae s=S.ae s'/\s<=s')
theorem BL {p:List Nat}{x y s s':Nat}(h:LsP p x y s)(h':LsP p x y s'):s=s':=by
 have a:=h.2.2 s' h'.1
 have b:=h'.2.2 s h.1
 omega
def S.ax (p:List Nat)(x y:Nat):Nat×Bool:=@dite _ (∃s,LsP p x y s) (Classical.propDecidable _) (fun h=>(Classical.choose h,true)) fun _=>(0,false)
theorem xd {p:List Nat}{x y s:Nat}(h:LsP p x y s):S.ax p x y=(s,true):=by
 have hx:∃s,LsP p x y s:=⟨s,h⟩
 rw[S.ax,dif_pos hx]
 exact congrArg (·,true) (BL (Classical.choose_spec hx) h)
theorem yD {p:List Nat}{x y:Nat}(h:∀s,nI p x y s->p.length<=S.ae s):S.ax p x y=(0,false):=by
 have hx:¬∃s,LsP p x y s:=by
  rintro ⟨s,h1,h2,-⟩
  have:=h s h1
  omega
 rw[S.ax,dif_neg hx]
end
end Hx
end
