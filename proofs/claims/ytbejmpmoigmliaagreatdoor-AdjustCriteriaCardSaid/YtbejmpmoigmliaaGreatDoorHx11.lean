/- A part of the proof: an interpreter over abstract values, shown right against the model, and what the functions of the chapter compute on it. -/
import Derived.OpenShut
import Derived.DataReads
import Derived.Test.YtbejmpmoigmliaaGreatDoorHx10
set_option linter.unusedVariables false
set_option linter.unusedSimpArgs false
set_option linter.unnecessarySimpa false
section
namespace Hx
open Go
noncomputable section
abbrev sg:=List UInt8×List UInt8
def Ee:VS:=fun P k h v=>∃p:List Nat,(GOk p/\p.length<=6)/\One p P k h v
def LGp (n:Nat)(u v:AV):List (Nat×AV):=[(1,.hptr 0 0 0 0),(3,.int .i64 (n:Int)),(4,u),(8,v)]
structure GD (a b u v:AV) (n:Nat) (num:Nat->Nat) (pl:List Int) (Y:List Nat) (g:G):Prop where
 h0:g.h.get 0=.cells 2 [[a,b]] 0 false false
 nu:Own g 1 u 1 (pl.map ci)
 ou:Own g 1 v 1 (Y.map cu)
 ne:∀i,vid u=some i->vid v≠some i
 ni:NumI n num Y
section
variable {d n:Nat}{a b u v:AV}{num:Nat->Nat}{pl:List Int}
theorem xT {Q:QT}{t:T}{g:G}{Y:List Nat}{i:Nat}{ps:List UInt8}{rows:List (List AV)}(n6:n<=6)(hN:Num n pl num)(hi:i<n)(hip:i<ps.length)(ra:∀h,aw h 1 a=some rows)(rl:rows.length=ps.length)(rg:∀(k:Nat) (x:UInt8),ps[k]?=some x->rows[k]?=some [.int .u8 (x.toNat:Int)])
  (hD:GD a b u v n num pl Y g) (ht:St t ((9,.int .i64 (i:Int))::LGp n u v)) (h10:tat t 10=.int .i64 0) (h11:tat t 11=.int .i64 0)
  (fin:∀t g' Y',St t ((9,.int .i64 (i:Int))::LGp n u v)->GD a b u v n num pl Y' g'->g.nx<=g'.nx->Q (.exit 4) t [] g'):wpL (wp C0 d none cq) Q t [] g:=by
 simp only[cq,eC]
 refine sB i (by omega) (fun k t df g'=>df=[]/\g.nx<=g'.nx/\St t ((9,.int .i64 (i:Int))::LGp n u v)/\(∃c:Int,0<=c/\c<=3/\tat t 10=.int .i64 c)/\∃Y',GD a b u v n num pl Y' g')
  ⟨rfl,Nat.le_refl _,ht,⟨0,by omega,by omega,h10⟩,Y,hD⟩ h11 (by decide)
  (by rintro k t df g v s (rfl | rfl | rfl) ⟨a1,a0,⟨b1,b2,b3,b4,b5,-⟩,⟨c,c1,c2,c3⟩,a2⟩<;>exact ⟨a1,a0,by simp[St,LGp,sx,b1,b2,b3,b4,b5],⟨c,c1,c2,by simp[sx,c3]⟩,a2⟩) ?_ ?_ ?_
 ·rintro k t df g' hk ⟨rfl,hn,⟨h9,h1,h3,h4,h8,-⟩,⟨c,c1,c2,h10⟩,Y',hD⟩ h11
  simp only[sz,simprocAttr,h9,h11]
  exact ⟨hn,by simp[St,LGp,sx,h1,h3,h4,h8,h9],⟨c,c1,c2,h10⟩,Y',hD⟩
 ·rintro k t df g1 hk ⟨rfl,hn,⟨h9,h1,h3,h4,h8,-⟩,⟨c,c1,c2,h10⟩,Y',hD⟩ h11
  obtain ⟨x,hx⟩:∃x,ps[i]?=some x:=⟨_,List.getElem?_eq_getElem hip⟩
  have hx8:x.toNat<256:=x.toNat_lt
  have hrx:=rg i x hx
  have hlt:i<rows.length:=by omega
  obtain ⟨z1,s1⟩:=yY x.toNat k
  obtain ⟨z2,s2⟩:=yE z1 1
  have s2:aX .and (.int .u8 (z1:Int)) (.int .u8 1)=.val (.int .u8 z2):=s2
  have wk:IntKind.wrap .u64 (k:Int)=(k:Int):=cU (by omega) (by omega)
  have lg1:aL (.cells 2 [[a,b]] 0 false false) 0 0 false 1 0=.val a:=rfl
  have ry:pi a=true:=sK (ra .nil) hlt
  by_cases e1:z2=1
  ·by_cases e2:c<3
   ·subst e1
    have hpl:=hN.at_ i hi
    have hpk:=hN.at_ k (by omega)
    have hnl:=hN.lt i hi
    have hkl:=hN.lt k (by omega)
    have q1:(pl.map ci)[i]?=some (ci (num i:Int)):=by rw[List.getElem?_map,hpl];rfl
    have q2:(pl.map ci)[k]?=some (ci (num k:Int)):=by rw[List.getElem?_map,hpk];rfl
    have z1:i<(pl.map ci).length:=by rw[List.length_map,hN.len];exact hi
    have z2:k<(pl.map ci).length:=by rw[List.length_map,hN.len];omega
    have rn:=hD.nu.rows
    have ro:=hD.ou.rows
    obtain ⟨y,hy⟩:∃y,Y'[num i]?=some y:=⟨_,List.getElem?_eq_getElem (by rw[hD.ni.l];exact hnl)⟩
    have q3:(Y'.map cu)[num i]?=some (cu y):=by rw[List.getElem?_map,hy];rfl
    have z3:num i<(Y'.map cu).length:=by rw[List.length_map,hD.ni.l];exact hnl
    have hG:=A7 hN (by omega) (by omega) hD.ni
    have hyl:y<18446744073709551616:=by
     have:=hG.hp y (List.mem_of_getElem? hy)
     have:=iU hG.l8
     omega
    have hsh:aX .shl (.int .u64 1) (.int .u64 (num k:Int))=.val (.int .u64 ((2 ^ num k:Nat):Int)):=by rw[aG,cP (by omega)]
    have h2k:(2:Nat) ^ num k<=2 ^ 6:=Nat.pow_le_pow_right (by decide) (by omega)
    have wn:IntKind.wrap .u64 (num k:Int)=(num k:Int):=cU (by omega) (by omega)
    have wc:IntKind.wrap .i64 (c+1)=c+1:=eX (by omega) (by omega)
    have hni:=zN hN hD.ni hi hk hy
    simp only[sz,simprocAttr,sf,h1,h4,h8,h9,h10,h11,hD.h0,lg1,ra,hlt,hrx,ry,wk,s1,s2,e2,rn,ro,q1,q2,q3,z1,z2,z3,ci,cu,wn,hsh,fp y _ hyl (show (2:Nat) ^ num k<18446744073709551616 by omega)]
    refine nK (v:=v) (sz:=1) (n:=1) (i:=num i) (off:=0) (x:=.int .u64 ((y ||| 2 ^ num k:Nat):Int)) (row':=cu (y ||| 2 ^ num k)) (hD.ou.fr (by simp;omega) fun i _=>by simp) q3 rfl rfl rfl fun g4 hu4 n4 f4=>?_
    rw[show ((Y'.map cu).set (num i) (cu (y ||| 2 ^ num k)))=(Y'.set (num i) (y ||| 2 ^ num k)).map cu from by rw[<-List.map_set]] at hu4
    have f4':∀i,vid v≠some i->g4.h.get i=g1.h.get i:=fun i hi=>by rw[f4 i hi];simp
    have n4':g1.nx<=g4.nx:=by rw[n4];simp;omega
    simp only[sz,simprocAttr,h10,wc]
    refine ⟨?_,?_⟩
    ·simp only[List.reverse_cons,List.reverse_nil,List.nil_append,List.cons_append]
     exact md [false,false,false,false,false,false,false,false,false,false,false,false,false,false,false,false,false,false,false,false,true] [] (by simp[All2,au,aS]) (by decide) (by simp)
    refine ⟨⟨by omega,by simp[St,LGp,sx,h1,h3,h4,h8,h9],⟨c+1,by omega,by omega,rfl⟩,_,⟨?_,?_,?_,hD.ne,hni⟩⟩,h11⟩
    ·simp only[bumpG_h]
     rw[f4' 0 fun e=>by have:=(hD.ou.lt e).1;omega,hD.h0]
    ·exact hD.nu.fr (by simp;omega) fun i hi=>by simp only[bumpG_h];exact f4' i (hD.ne i hi)
    ·exact hu4.fr (by simp) fun i _=>by simp
   ·simp only[sz,simprocAttr,h1,h8,h9,h10,h11,hD.h0,lg1,ra,hlt,hrx,ry,wk,s1,s2,e1,e2]
    exact ⟨hn,by simp[St,LGp,sx,h1,h3,h4,h8,h9],⟨c,c1,c2,rfl⟩,Y',hD⟩
  ·simp only[sz,simprocAttr,h1,h8,h9,h11,hD.h0,lg1,ra,hlt,hrx,ry,wk,s1,s2,e1]
   exact ⟨hn,by simp[St,LGp,sx,h1,h3,h4,h8,h9],⟨c,c1,c2,h10⟩,Y',hD⟩
 ·rintro t df g' ⟨rfl,hn,ht,-,Y',hD⟩
  exact fin t g' Y' ht hD hn
theorem yf {Q:QT}{t:T}{g:G}{Y:List Nat}{ps:List UInt8}{rows:List (List AV)}(n6:n<=6)(hN:Num n pl num)(al:∀g,ej .slice a g=.val (.int .i64 (ps.length:Int)))(ra:∀h,aw h 1 a=some rows)(rl:rows.length=ps.length)(rg:∀(k:Nat) (x:UInt8),ps[k]?=some x->rows[k]?=some [.int .u8 (x.toNat:Int)])
  (hD:GD a b u v n num pl Y g) (ht:St t (LGp n u v)) (h9:tat t 9=.int .i64 0)
  (fin:∀t g' Y',St t (LGp n u v)->GD a b u v n num pl Y' g'->Q (.exit 2) t [] g'):wpL (wp C0 d none cy) Q t [] g:=by
 simp only[cy,eQ]
 have lg1:aL (.cells 2 [[a,b]] 0 false false) 0 0 false 1 0=.val a:=rfl
 refine sB (min n ps.length) (by omega) (fun i t df g'=>df=[]/\St t (LGp n u v)/\∃Y',GD a b u v n num pl Y' g')
  ⟨rfl,ht,Y,hD⟩ h9 (by decide)
  (by rintro k t df g v s (rfl | rfl | rfl) ⟨a1,⟨b1,b2,b3,b4,-⟩,a2⟩<;>exact ⟨a1,by simp[St,LGp,sx,b1,b2,b3,b4],a2⟩) ?_ ?_ ?_
 ·rintro i t df g' hk ⟨rfl,⟨h1,h3,h4,h8,-⟩,Y',hD⟩ h9
  by_cases c1:i<n
  ·simp only[sz,simprocAttr,h1,h3,h9,hD.h0,lg1,al,show (i:Int)<(n:Int) from by omega]
   refine ⟨?_,by simp[St,LGp,sx,h1,h3,h4,h8],Y',hD⟩
   congr 1
   exact decide_eq_decide.2 (by omega)
  ·simp only[sz,simprocAttr,h3,h9,show ¬(i:Int)<(n:Int) from by omega]
   refine ⟨?_,by simp[St,LGp,sx,h1,h3,h4,h8],Y',hD⟩
   congr 1
   exact (decide_eq_false (by omega)).symm
 ·rintro i t df g1 hk ⟨rfl,⟨h1,h3,h4,h8,-⟩,Y',hD⟩ h9
  simp only[sz,simprocAttr]
  refine xT (i:=i) (ps:=ps) n6 hN (by omega) (by omega) ra rl rg hD (by simp[St,LGp,sx,h1,h3,h4,h8,h9]) (by simp[sx]) (by simp[sx]) ?_
  rintro t g' Y' ⟨h9,ht⟩ hD hn
  simp only[sz,simprocAttr]
  exact ⟨⟨ht,Y',hD⟩,h9⟩
 ·rintro t df g' ⟨rfl,ht,Y',hD⟩
  exact fin t g' Y' ht hD
theorem yC {Q:QT}{t:T}{g:G}{os:List UInt8}{rows:List (List AV)}(n6:n<=6)(bl:∀g,ej .slice b g=.val (.int .i64 (os.length:Int)))(rb:∀h,aw h 1 b=some rows)(rl:rows.length=os.length)(rg:∀(k:Nat) (x:UInt8),os[k]?=some x->rows[k]?=some [.int .u8 (x.toNat:Int)])
  (h0:g.h.get 0=.cells 2 [[a,b]] 0 false false) (hn1:1<=g.nx) (ht:St t [(1,.hptr 0 0 0 0),(3,.int .i64 (n:Int)),(4,.nils)]) (h5:tat t 5=.int .i64 0)
  (fin:∀t g' u,St t [(1,.hptr 0 0 0 0),(3,.int .i64 (n:Int)),(4,u)]->g'.h.get 0=.cells 2 [[a,b]] 0 false false->1<=g'.nx->Own g' 1 u 1 ((S.am os n).map ci)->Q (.exit 0) t [] g'):wpL (wp C0 d none cB) Q t [] g:=by
 simp only[cB,eR]
 have lg2:aL (.cells 2 [[a,b]] 0 false false) 0 0 false 1 1=.val b:=rfl
 refine sB n (by omega) (fun j t df g=>df=[]/\g.h.get 0=.cells 2 [[a,b]] 0 false false/\1<=g.nx/\∃u,St t [(1,.hptr 0 0 0 0),(3,.int .i64 (n:Int)),(4,u)]/\Own g 1 u 1 ((S.am os j).map ci))
  ⟨rfl,h0,hn1,.nils,ht,.inl ⟨rfl,rfl⟩⟩ h5 (by decide)
  (by rintro k t df g v s (rfl | rfl | rfl) ⟨a1,a2,a3,u,⟨b1,b2,b3,-⟩,a4⟩<;>exact ⟨a1,a2,a3,u,by simp[St,sx,b1,b2,b3],a4⟩) ?_ ?_ ?_
 ·rintro j t df g hj ⟨rfl,hg,hnx,u,⟨h1,h3,h4,-⟩,hu⟩ h5
  simp only[sz,simprocAttr,h3,h5]
  exact ⟨hg,hnx,u,by simp[St,sx,h1,h3,h4],hu⟩
 ·rintro j t df g hj ⟨rfl,hg,hnx,u,⟨h1,h3,h4,-⟩,hu⟩ h5
  have hpl:((S.am os j).map ci).length=j:=by rw[List.length_map,jM]
  have hle:S.aJ os j<=j:=by
   unfold S.aJ;split
   ·have:=Nat.mod_lt ((os[j]?.map UInt8.toNat).getD 0) (show 0<j+1 by omega);omega
   ·omega
  have key:∀(t:T) (Q:QT),St t [(1,.hptr 0 0 0 0),(3,.int .i64 (n:Int)),(4,u)]->tat t 5=.int .i64 (j:Int)->tat t 6=.int .i64 (S.aJ os j:Int) ->
    (∀(t':T) (g':G),(∃u,St t' [(1,.hptr 0 0 0 0),(3,.int .i64 (n:Int)),(4,u)]/\Own g' 1 u 1 ((S.am os (j+1)).map ci))->tat t' 5=.int .i64 (j:Int)->g'.h.get 0=.cells 2 [[a,b]] 0 false false->1<=g'.nx->Q .norm t' [] g') ->
    wp C0 d none cp Q t [] g:=by
   rintro t Q ⟨h1,h3,h4,-⟩ h5 h6 kk
   obtain ⟨y1,s1,w1⟩:=ve hu (n:=S.aJ os j) (by omega)
   simp only[sz,simprocAttr,cp,h4,h6,List.head?_nil,List.head?_cons,s1]
   refine dT (rows:=[]) (b:=1) (.inl ⟨rfl,rfl⟩) w1 hnx (by simp[el];omega) fun v1 g1 hv1 n1 f1 vid1 _=>?_
   simp only[sz,simprocAttr,h5]
   refine dT (new:=[ci (j:Int)]) (hv1.step (Fr.new _ _)) (by simp[sx,sy,ci]) (by simp) (by simp[el,jM];omega) fun v2 g2 hv2 n2 f2 vid2 _=>?_
   have hu1:Own g1 1 u 1 ((S.am os j).map ci):=hu.fr n1 fun i hi=>f1 i (hu.lt hi).2 (by simp[vid])
   have hnv:∀i,i<g.nx->vid v1≠some i:=fun i hi e=>by
    rcases vid1 with h | ⟨i',h,hi'⟩
    ·rw[h] at e;cases e
    ·rw[h] at e;injection e with e;omega
   have hu2:Own g2 1 u 1 ((S.am os j).map ci):=hu1.fr (by simp at n2;omega) fun i hi=>by
    have hlt:=(hu.lt hi).2
    rw[f2 i (by simp;omega) (hnv i hlt),G.new_h,dj _ _ _ (by omega)]
   obtain ⟨y2,s2,w2⟩:=vp hu2 (n:=S.aJ os j) (by omega)
   simp only[sz,simprocAttr,h4,h6,List.head?_nil,List.head?_cons,s2]
   refine dT hv2 w2 (by simp at n2;omega) (by simp[el,jM];omega) fun v3 g3 hv3 n3 f3 _ _=>?_
   simp only[sz,simprocAttr]
   refine kk _ _ ⟨v3,by simp[St,sx,h1,h3],?_⟩ (by simp[sx,h5]) ?_ (by simp at n2;omega)
   ·simpa [S.am,List.map_take,List.map_drop] using hv3
   ·rw[f3 0 (by simp at n2;omega) (fun e=>by have:=(hv2.lt e).1;omega),f2 0 (by simp) (hnv 0 (by omega)),G.new_h,dj _ _ _ (by omega),f1 0 (by omega) (by simp[vid]),hg]
  by_cases hb:j<os.length
  ·obtain ⟨y,hy⟩:∃y,os[j]?=some y:=⟨_,List.getElem?_eq_getElem hb⟩
   have z1:=rg j y hy
   have hy8:y.toNat<256:=y.toNat_lt
   have hlt:j<rows.length:=by omega
   have ry:pi b=true:=sK (rb .nil) hlt
   have hat:((S.aJ os j:Nat):Int)=(y.toNat:Int) % ((j:Int)+1):=by
    unfold S.aJ;rw[if_pos hb,hy];simp
   simp only[sz,simprocAttr,h1,h5,hg,lg2,bl,show (j:Int)<(os.length:Int) from by omega,rb,hlt,z1,ry,eX (show -9223372036854775808<=(y.toNat:Int) by omega) (show (y.toNat:Int)<9223372036854775808 by omega),eX (show -9223372036854775808<=(j:Int)+1 by omega) (show (j:Int)+1<9223372036854775808 by omega),rU .i64 (show (0:Int)<=(y.toNat:Int) by omega) (show 0<(j:Int)+1 by omega)]
   refine key _ _ (by simp[St,sx,h1,h3,h4]) (by simp[sx,h5]) (by simp[sx,hat]) fun t' g' eu e5 e0 en=>?_
   simp only[sy,e5,e0]
   exact ⟨en,eu⟩
  ·have hat:S.aJ os j=0:=by unfold S.aJ;rw[if_neg hb]
   simp only[sz,simprocAttr,h1,h5,hg,lg2,bl,show ¬(j:Int)<(os.length:Int) from by omega]
   refine key _ _ (by simp[St,sx,h1,h3,h4]) (by simp[sx,h5]) (by simp[sx,hat]) fun t' g' eu e5 e0 en=>?_
   simp only[sy,e5,e0]
   exact ⟨en,eu⟩
 ·rintro t df g ⟨rfl,hg,hnx,u,ht,hu⟩
  exact fin t g u ht hg hnx hu
theorem x4 {k:Nat}{g:G}{P:Nat->Prop}{v:AV}{x:sg}(hd:0<d)(hm:Agg x P k g.h v) :
  ∃r,ap C0 d N.aH [v] g=.val r/\Ee NoP 0 .nil r:=by
 obtain ⟨v',e,cs,rfl,hc⟩:=Aa (rW x) (by decide) d hm
 obtain ⟨_,_,rfl,hA',hB'⟩:=eP.1 hc
 obtain ⟨a,rfl,hA⟩:=aK.1 hA'
 obtain ⟨b,rfl,hB⟩:=aK.1 hB'
 obtain ⟨rows,r1,r2,r3,r4⟩:=hB.all
 have r1:∀h',aw h' 1 b=some rows:=r1
 obtain ⟨rows2,q1,q2,q3,q4⟩:=hA.all
 have q1:∀h',aw h' 1 a=some rows2:=q1
 have rg:∀(k:Nat) (y:UInt8),x.2[k]?=some y->rows[k]?=some [.int .u8 (y.toNat:Int)]:=fun k y hy=>by
  obtain ⟨row,z1,z2⟩:=r3 k y hy
  rw[z1,A1.1 z2]
 have qg:∀(k:Nat) (y:UInt8),x.1[k]?=some y->rows2[k]?=some [.int .u8 (y.toNat:Int)]:=fun k y hy=>by
  obtain ⟨row,z1,z2⟩:=q3 k y hy
  rw[z1,A1.1 z2]
 obtain ⟨n,hn⟩:∃n,n=min (max x.1.length 1) 6:=⟨_,rfl⟩
 have n1:1<=n:=by omega
 have n6:n<=6:=by omega
 obtain ⟨num,hN⟩:=Dl x.2 n
 rw[i7]
 refine fu ks (xs:=[.agg ([a]++[b])]) (by simp only[aA,e]) (by simp[dF]) (xM fun o=>dw _) (by decide) hd ?_
 have lg1:aL (.cells 2 [[a,b]] 0 false false) 0 0 false 1 0=.val a:=rfl
 simp only[sz,simprocAttr,dF,e6,List.cons_append,List.nil_append,lg1,hA.len]
 have en:min (max (x.1.length:Int) 1) 6=(n:Int):=by omega
 rw[en]
 refine yC (a:=a) (b:=b) (n:=n) (os:=x.2) n6 hB.len r1 r2 rg (by simp[sx]) (by simp) (by simp[St,sx]) (by simp[sx]) ?_
 rintro t g u ⟨h1,h3,h4,-⟩ g0 hnx hu
 simp only[sz,simprocAttr,eO,h3]
 refine wj (b:=1) (n:=n) (bytes:=8) (sz:=1) (zero:=[.int .u64 0]) (by unfold el;omega) (by unfold el;omega) hnx fun w g1 hw n1' f1 hvid=>?_
 have hN0:NumI n num (List.replicate n 0):=xV
 have e0:(List.replicate n [AV.int .u64 0])=(List.replicate n 0).map cu:=by rw[List.map_replicate];rfl
 rw[e0] at hw
 have hD:GD a b u w n num (S.am x.2 n) (List.replicate n 0) g1:=⟨by rw[f1 0 (by omega),g0],hu.fr (by omega) fun i hi=>f1 i (hu.lt hi).2,hw,fun i hi e=>by rw[hvid] at e;injection e with e;have:=(hu.lt hi).2;omega,hN0⟩
 simp only[sz,simprocAttr]
 refine yf (ps:=x.1) n6 hN hA.len q1 q2 qg hD (by simp[St,LGp,sx,h1,h3,h4]) (by simp[sx]) ?_
 rintro t g' Y' ⟨-,-,-,h8,-⟩ hD
 simp only[sz,simprocAttr,eJ,h8]
 have hG:=A7 hN n1 (by omega) hD.ni
 refine ⟨fun _=>True,Y',⟨hG,by rw[hD.ni.l];exact n6⟩,_,rfl,hD.ou.nats' (by rw[hD.ni.l];omega) fun y hy=>?_⟩
 have:=hG.hp y hy
 have:=iU hG.l8
 omega
end
end
end Hx
end
section
namespace Hx
open Go
noncomputable section
theorem CD {w:AV}{l:List Nat}(hw:SlR NoP 0 .nil l w)(hr:Raw w){c:Nat}(hc:c<=l.length) :
  ∃w',(∀g,tv 1 w none (some (.int .i64 (c:Int))) g=.val w')/\SlR NoP 0 .nil (l.take c) w'/\Raw w':=by
 have hlt:(l.take c).length<9223372036854775808:=by have:=hw.1;rw[List.length_take];omega
 rcases hr with rfl | ⟨rows,rfl⟩
 ·have hl:l=[]:=hw.2
  subst hl
  have:c=0:=by simpa using hc
  subst this
  exact ⟨.nils,fun g=>rfl,⟨hlt,by simp[SlV]⟩,.inl rfl⟩
 ·obtain ⟨h0,h1,h2⟩:=(show 0<=0/\(1=Rp.sz Nat\/rows=[])/\All2 (Rp.rp NoP 0 .nil) l rows from hw.2)
  have hlen:=h2.len
  refine ⟨.tsl 0 1 (rows.take c),fun g=>?_,⟨hlt,?_⟩,.inr ⟨_,rfl⟩⟩
  ·show orV (match aN (aQ rows) (aQ rows) (some (.int .i64 (.ofNat c))) with
    | none=>none
    | some h=>match aN 0 h none with
     | none=>none
     | some l=>af (Nat.beq 1 1) (some (.tsl 0 1 (eZ (h - l) (eI l rows)))) none)=_
   have:aN (aQ rows) (aQ rows) (some (.int .i64 (.ofNat c)))=some c:=by
    show af (Nat.ble c (aQ rows)) (some c) none=_
    rw[aa,if_pos]
    rw[am,<-hlen];simp;omega
   rw[this]
   show orV (af (Nat.beq 1 1) (some (AV.tsl 0 1 (eZ (c - 0) (eI 0 rows)))) none)=_
   rw[show Nat.beq 1 1=true from rfl,bif'_true,aT,aU,List.drop_zero,Nat.sub_zero];rfl
  ·exact ⟨Nat.le_refl _,h1.elim .inl (fun h=>.inr (by rw[h];simp)),h2.take c⟩
def GsV:VS:=fun P k h v=>∃y:List Nat×List Nat,True/\Agg y P k h v
theorem DI:Snb GsV 1:=xM fun o=>rW _
theorem x3 {p l:List Nat}:S.az p l=0↔GOk p/\S.ay p.length l 0=true:=by
 rw[S.az]
 cases h1:S.ax p with
 | false=>simp;intro h;rw[iZ.2 h] at h1;cases h1
 | true =>
  cases h2:S.ay p.length l 0 with
  | false=>simp
  | true=>simp[iZ.1 h1]
theorem A4 (x:Int):∃m:Nat,IntKind.wrap .u64 x=(m:Int)/\m<18446744073709551616:=by
 refine ⟨(x % 18446744073709551616).toNat,?_,by omega⟩
 show x % 18446744073709551616=_
 omega
theorem q7 {m n:Nat}(h:m<18446744073709551616)(h':n<18446744073709551616):m ^^^ (m &&& n)<18446744073709551616:=Nat.xor_lt_two_pow (n:=64) h (zc h)
theorem mJ {p:List Nat}{x y z:Nat}(hG:GOk p)(hx:x<2 ^ p.length)(hy:y<2 ^ p.length)(hz:z<2 ^ p.length)(h1:y &&& x=0)(h2:z &&& x=0)(h3:z &&& y=0):S.az p [x,y,z]=0:=by
 refine x3.2 ⟨hG,CZ.2 ⟨hx,hy,h1,hz,?_⟩⟩
 exact wg.2 fun v h=>(DW.1 h.2).elim (fun h'=>wg.1 h2 v ⟨h.1,h'⟩) fun h'=>wg.1 h3 v ⟨h.1,h'⟩
theorem Ea (a b c e f:AV)(t:T):bw 0 [a,b,c,e,f] t=co (co (co (co (co t 0 a) 1 b) 2 c) 3 e) 4 f:=rfl
theorem Ek (a b c e f i:AV)(t:T):bw 0 [a,b,c,e,f,i] t=co (co (co (co (co (co t 0 a) 1 b) 2 c) 3 e) 4 f) 5 i:=rfl
def S.ak (n:Nat)(x y:Int)(zs seen:Nat):Bool:=S.aI n x y&&decide (zs<2 ^ n)&&decide (seen<2 ^ n)&&!zs.testBit x.toNat&&!zs.testBit y.toNat
def S.ae (p:List Nat)(x y:Int)(zs seen:Nat):Int:=if S.ax p then (if S.ak p.length x y zs seen then 0 else 2) else 70
def S.aF (p:List Nat)(a b zs:Nat):Bool:=decide (S.dn p (2 ^ a) p.length &&& zs=0)&&S.ap (S.wo p (2 ^ a)) (2 ^ a) (2 ^ b) zs
def S.aA (p:List Nat)(a b zs:Nat):Bool:=!S.aB p zs b a&&(S.ap (S.wo p (2 ^ a)) (2 ^ a) zs 0&&S.ap (S.wo p zs) zs (2 ^ b) (2 ^ a))
theorem pk {n:Nat}{x y:Int}:S.aI n x y=true↔∃a b:Nat,x=a/\y=b/\a<n/\b<n/\a≠b:=by
 rw[S.aI,decide_eq_true_iff]
 constructor
 ·rintro ⟨h1,h2,h3,h4,h5⟩
  exact ⟨x.toNat,y.toNat,by omega,by omega,by omega,by omega,by omega⟩
 ·rintro ⟨a,b,rfl,rfl,h1,h2,h3⟩
  exact ⟨by omega,by omega,by omega,by omega,by omega⟩
theorem nB {p:List Nat}{x y:Int}{zs seen:Nat}(h:S.ae p x y zs seen=0):GOk p/\∃a b:Nat,x=a/\y=b/\a<p.length/\b<p.length/\a≠b/\zs<2 ^ p.length/\zs.testBit a=false/\zs.testBit b=false:=by
 unfold S.ae at h
 split at h
 ·rename_i hG
  split at h
  ·rename_i ha
   simp only[S.ak,Bool.and_eq_true,decide_eq_true_iff,Bool.not_eq_true'] at ha
   obtain ⟨⟨⟨⟨h1,h2⟩,-⟩,h3⟩,h4⟩:=ha
   obtain ⟨a,b,rfl,rfl,h5,h6,h7⟩:=pk.1 h1
   exact ⟨iZ.1 hG,a,b,rfl,rfl,h5,h6,h7,h2,h3,h4⟩
  ·cases h
 ·cases h
theorem zl {p:List Nat}:S.az p []=if S.ax p then 0 else 70:=by
 unfold S.az
 cases S.ax p<;>rfl
theorem pZ {d:Nat}{g:G}{v:AV}{p:List Nat}{x y:Int}{zs:Nat}(hd:0<d)(hv:SlR NoP 0 .nil p v)(hz:zs<18446744073709551616) :
  ap C0 d N.az [v,.int .i64 x,.int .i64 y,.int .u64 (zs:Int)] g=.val (.int .i64 (S.ae p x y zs 0)):=by
 have e:=ig (h:=g.h) d (hv.tree (h':=g.h) (Nat.le_refl 0))
 have kc:=fun g=>y3 (d:=d+1) (g:=g) (Nat.succ_pos d) hv
 have lp:=hv.len
 have kt:=fun g=>tS (d:=d+1) (n:=p.length) (g:=g) (x:=x) (y:=y) (Nat.succ_pos d)
 rw[zl] at kc
 rw[mm]
 refine eN ox (xs:=[v,.int .i64 x,.int .i64 y,.int .u64 (zs:Int)]) (by simp only[aA,e,aW]) (by simp[bH]) hd ?_
 cases hG:S.ax p with
 | false =>
  have:S.ae p x y zs 0=70:=by rw[S.ae,hG];rfl
  rw[hG] at kc
  simp only[sz,simprocAttr,bH,kc,this]
 | true =>
  rw[hG] at kc
  have hE:S.ae p x y zs 0=if S.ak p.length x y zs 0 then 0 else 2:=by rw[S.ae,hG];rfl
  cases h2:S.aI p.length x y with
  | false =>
   have:S.ae p x y zs 0=2:=by rw[hE,S.ak,h2];rfl
   simp only[sz,simprocAttr,bH,kc,lp,kt,h2,this]
  | true =>
   obtain ⟨a,b,rfl,rfl,ha,hb,hab⟩:=pk.1 h2
   by_cases c:zs<2 ^ p.length
   ·have hsa:=aJ .i64 zs a hz
    have hsb:=aJ .i64 zs b hz
    have ho:=fp (zs / 2 ^ a) (zs / 2 ^ b) (Nat.lt_of_le_of_lt (Nat.div_le_self _ _) hz) (Nat.lt_of_le_of_lt (Nat.div_le_self _ _) hz)
    have ho2:aX .and (.int .u64 ((zs / 2 ^ a ||| zs / 2 ^ b:Nat):Int)) (.int .u64 1)=.val (.int .u64 (((zs / 2 ^ a ||| zs / 2 ^ b) &&& 1:Nat):Int)):=bp (zs / 2 ^ a ||| zs / 2 ^ b) 1 (wm (Nat.lt_of_le_of_lt (Nat.div_le_self _ _) hz) (Nat.lt_of_le_of_lt (Nat.div_le_self _ _) hz)) (by decide)
    have hbit:(zs / 2 ^ a ||| zs / 2 ^ b) &&& 1=if zs.testBit a || zs.testBit b then 1 else 0:=by
     have h1:∀{s v:Nat},s / 2 ^ v &&& 1=if s.testBit v then 1 else 0:=rZ
     rw[Nat.and_or_distrib_right,h1,h1]
     cases zs.testBit a<;>cases zs.testBit b<;>rfl
    rw[hbit] at ho2
    have hA:S.ak p.length a b zs 0 = !(zs.testBit a || zs.testBit b):=by
     simp only[S.ak,h2,c,Int.toNat_natCast,decide_true,Bool.true_and,Bool.and_true,Nat.two_pow_pos,Bool.not_or]
    cases ht:zs.testBit a || zs.testBit b with
    | true =>
     have:S.ae p a b zs 0=2:=by rw[hE,hA,ht];rfl
     rw[ht,if_pos rfl] at ho2
     have ho2:aX .and (.int .u64 ((zs / 2 ^ a ||| zs / 2 ^ b:Nat):Int)) (.int .u64 1)=.val (.int .u64 1):=ho2
     simp only[sz,simprocAttr,bH,kc,lp,kt,h2,aJ _ _ _ hz,eF,c,ho,ho2,this]
    | false =>
     have:S.ae p a b zs 0=0:=by rw[hE,hA,ht];rfl
     rw[ht,if_neg (by decide)] at ho2
     have ho2:aX .and (.int .u64 ((zs / 2 ^ a ||| zs / 2 ^ b:Nat):Int)) (.int .u64 1)=.val (.int .u64 0):=ho2
     simp only[sz,simprocAttr,bH,kc,lp,kt,h2,aJ _ _ _ hz,eF,c,ho,ho2,this]
   ·have:S.ae p a b zs 0=2:=by rw[hE];simp[S.ak,c]
    simp only[sz,simprocAttr,bH,kc,lp,kt,h2,aJ _ _ _ hz,eF,c,this]
theorem y4 {d k:Nat}{g:G}{P:Nat->Prop}{v:AV}{p:List Nat}{x y:Int}{zs seen:Nat}(hd:0<d)(hv:SlR P k g.h p v)(hz:zs<18446744073709551616)(hs:seen<18446744073709551616) :
  ap C0 d N.aR [v,.int .i64 x,.int .i64 y,.int .u64 (zs:Int),.int .u64 (seen:Int)] g=.val (.bool (S.ak p.length x y zs seen)):=by
 obtain ⟨v',e,r1⟩:=bY hv d
 have vl:∀g,ej .slice v' g=.val (.int .i64 (p.length:Int)):=fun g=>(r1 .nil).len g
 have hl:=hv.1
 have wk:IntKind.wrap .u64 (p.length:Int)=(p.length:Int):=cU (by omega) (by omega)
 rw[nF]
 refine cG pM (xs:=[v',.int .i64 x,.int .i64 y,.int .u64 (zs:Int),.int .u64 (seen:Int)]) (by simp only[aA,e,aW]) (by simp[bc]) hd ?_
 rw[Ea]
 by_cases c1:x<0
 ·have:S.ak p.length x y zs seen=false:=by rw[S.ak,show S.aI p.length x y=false from decide_eq_false (by omega)];rfl
  simp only[sz,simprocAttr,bc,vl,c1,this]
 by_cases c2:(p.length:Int)<=x
 ·have:S.ak p.length x y zs seen=false:=by rw[S.ak,show S.aI p.length x y=false from decide_eq_false (by omega)];rfl
  simp only[sz,simprocAttr,bc,vl,c1,c2,this]
 by_cases c3:y<0
 ·have:S.ak p.length x y zs seen=false:=by rw[S.ak,show S.aI p.length x y=false from decide_eq_false (by omega)];rfl
  simp only[sz,simprocAttr,bc,vl,c1,c2,c3,this]
 by_cases c4:(p.length:Int)<=y
 ·have:S.ak p.length x y zs seen=false:=by rw[S.ak,show S.aI p.length x y=false from decide_eq_false (by omega)];rfl
  simp only[sz,simprocAttr,bc,vl,c1,c2,c3,c4,this]
 by_cases c5:x=y
 ·have:S.ak p.length x y zs seen=false:=by rw[S.ak,show S.aI p.length x y=false from decide_eq_false (by omega)];rfl
  have c':decide (x=y)=true:=decide_eq_true c5
  simp only[sz,simprocAttr,bc,vl,c1,c2,c3,c4,c',this]
 have c5':decide (x=y)=false:=decide_eq_false c5
 have h2:S.aI p.length x y=true:=decide_eq_true (by omega)
 by_cases c6:zs<2 ^ p.length
 ·by_cases c7:seen<2 ^ p.length
  ·obtain ⟨a,b,rfl,rfl,ha,hb,hab⟩:=pk.1 h2
   have hA:S.ak p.length a b zs seen=(!zs.testBit a&&!zs.testBit b):=by
    simp only[S.ak,h2,c6,c7,Int.toNat_natCast,decide_true,Bool.true_and]
   have ka:∀g,ap C0 (d+1) N.aa [.int .u64 (zs:Int),.int .i64 (a:Int)] g=.val (.bool (zs.testBit a)):=fun g=>by rw[iN (Nat.succ_pos d) hz (by omega),jQ]
   have kb:∀g,ap C0 (d+1) N.aa [.int .u64 (zs:Int),.int .i64 (b:Int)] g=.val (.bool (zs.testBit b)):=fun g=>by rw[iN (Nat.succ_pos d) hz (by omega),jQ]
   rw[hA]
   cases hba:zs.testBit a<;>cases hbb:zs.testBit b<;>simp only[sz,simprocAttr,bc,vl,wk,c1,c2,c3,c4,c5',aJ _ _ _ hz,aJ _ _ _ hs,eF,c6,c7,ka,kb,hba,hbb,Bool.not_true,Bool.not_false,Bool.and_self,Bool.and_true,Bool.true_and,Bool.and_false,Bool.false_and]
  ·have:S.ak p.length x y zs seen=false:=by simp[S.ak,c7]
   simp only[sz,simprocAttr,bc,vl,wk,c1,c2,c3,c4,c5',aJ _ _ _ hz,aJ _ _ _ hs,eF,c6,c7,this]
 ·have:S.ak p.length x y zs seen=false:=by simp[S.ak,c6]
  simp only[sz,simprocAttr,bc,vl,wk,c1,c2,c3,c4,c5',aJ _ _ _ hz,eF,c6,this]
theorem sj {d k:Nat}{g:G}{P:Nat->Prop}{v:AV}{p:List Nat}{x y:Int}{zs seen:Nat}(hd:0<d)(hv:SlR P k g.h p v)(hz:zs<18446744073709551616)(hs:seen<18446744073709551616) :
  ap C0 d N.ay [v,.int .i64 x,.int .i64 y,.int .u64 (zs:Int),.int .u64 (seen:Int)] g=.val (.int .i64 (S.ae p x y zs seen)):=by
 obtain ⟨v',e,r1⟩:=bY hv d
 have kr:=fun g=>ru (d:=d+1) (g:=g) (Nat.succ_pos d) (r1 g.h)
 have ka:=fun g=>y4 (d:=d+1) (g:=g) (x:=x) (y:=y) (Nat.succ_pos d) (r1 g.h) hz hs
 rw[ma]
 refine eN nf (xs:=[v',.int .i64 x,.int .i64 y,.int .u64 (zs:Int),.int .u64 (seen:Int)]) (by simp only[aA,e,aW]) (by simp[cF]) hd ?_
 rw[Ea]
 cases hG:S.ax p with
 | false =>
  have:S.ae p x y zs seen=70:=by rw[S.ae,hG];rfl
  simp only[sz,simprocAttr,cF,kr,hG,this]
 | true =>
  cases hA:S.ak p.length x y zs seen with
  | false =>
   have:S.ae p x y zs seen=2:=by rw[S.ae,hG,hA];rfl
   simp only[sz,simprocAttr,cF,kr,hG,ka,hA,this]
  | true =>
   have:S.ae p x y zs seen=0:=by rw[S.ae,hG,hA];rfl
   simp only[sz,simprocAttr,cF,kr,hG,ka,hA,this]
theorem uM {n a:Nat}(h:a<n):2 ^ a<2 ^ n:=Nat.pow_lt_pow_right (by decide) h
theorem eV {a z:Nat}(h:z.testBit a=false):z &&& 2 ^ a=0:=wg.2 fun v hv=>by
 have h1:z.testBit v=true:=hv.1
 have h2:(2 ^ a).testBit v=true:=hv.2
 rw[Nat.testBit_two_pow,decide_eq_true_iff] at h2
 rw[<-h2,h] at h1;cases h1
theorem j9 {a z:Nat}(h:z.testBit a=false):2 ^ a &&& z=0:=by rw[Nat.and_comm];exact eV h
theorem mL {a b:Nat}(h:a≠b):2 ^ a &&& 2 ^ b=0:=eV (by rw[Nat.testBit_two_pow];exact decide_eq_false h)
theorem ke {p:List Nat}{x y z:Nat}(hG:GOk p)(hx:x<2 ^ p.length)(hy:y<2 ^ p.length)(hz:z<2 ^ p.length)(h1:y &&& x=0)(h2:z &&& x=0)(h3:z &&& y=0):S.ap p x y z=decide (S.aq p x z &&& y=0):=by
 rw[S.ap,mJ hG hx hy hz h1 h2 h3];rfl
theorem uR {d:Nat}{g:G}{v:AV}{p:List Nat}{a b zs:Nat}(hd:0<d)(hv:SlR NoP 0 .nil p v)(hG:GOk p)(ha:a<p.length)(hb:b<p.length)(hab:a≠b)(hz:zs<2 ^ p.length)(hza:zs.testBit a=false)(hzb:zs.testBit b=false) :
  ap C0 d N.ax [v,.int .i64 (a:Int),.int .i64 (b:Int),.int .u64 (zs:Int)] g=.val (.tup [.bool (S.aF p a b zs),.int .i64 0]):=by
 have key:∃r,ap C0 d N.ax [v,.int .i64 (a:Int),.int .i64 (b:Int),.int .u64 (zs:Int)] g=.val r/\ta (One (S.aF p a b zs)) (One (0:Int)) NoP 0 .nil r:=by
  have e:=ig (h:=g.h) d (hv.tree (h':=g.h) (Nat.le_refl 0))
  have n8:=hG.l8
  have h256:=iU n8
  have hwo:=rD (s:=2 ^ a) hG
  have hwl:=gQ (p:=p) (2 ^ a)
  have hA:=uM ha
  have hB:=uM hb
  have hdn:=nZ (p:=p) (s:=2 ^ a) hA p.length
  have kb:∀g,ap C0 (d+1) N.aq [v,.int .i64 (a:Int),.int .u64 0] g=.val (.int .u64 (S.dn p (2 ^ a) p.length:Int)):=fun g=>by
   have:=tJ (d:=d+1) (g:=g) (x:=a) (s:=0) (Nat.succ_pos d) (hv.tree (h':=g.h) (Nat.le_refl 0)) n8 ha (by decide)
   rw[Br] at this
   exact this
  have hsa:aX .shl (.int .u64 1) (.int .i64 (a:Int))=.val (.int .u64 ((2 ^ a:Nat):Int)):=by rw[aG,cP (by omega)]
  have hsb:aX .shl (.int .u64 1) (.int .i64 (b:Int))=.val (.int .u64 ((2 ^ b:Nat):Int)):=by rw[aG,cP (by omega)]
  rw[jO]
  refine fu lO (xs:=[v,.int .i64 (a:Int),.int .i64 (b:Int),.int .u64 (zs:Int)]) (by simp only[aA,e,aW]) (by simp[cR]) (j8 (m:=1) (dw _) (dw _) (by decide) (by decide)) (by decide) hd ?_
  by_cases c:S.dn p (2 ^ a) p.length &&& zs=0
  ·have hc:((S.dn p (2 ^ a) p.length &&& zs:Nat):Int)=0:=by omega
   simp only[sz,simprocAttr,cR,kb,bp _ zs (show S.dn p (2 ^ a) p.length<18446744073709551616 by omega) (show zs<18446744073709551616 by omega),hc,hsa,hsb]
   refine iy (lP (Nat.succ_pos d) (hv.tree (Nat.le_refl 0)) n8 hG.l1 (show 2 ^ a<18446744073709551616 by omega)) fun r hr=>?_
   obtain ⟨_,er,hr⟩:=aK.1 hr
   injection er with er
   subst er
   have kA:=fun g=>nJ (d:=d+1) (g:=g) (Nat.succ_pos d) hr (show 2 ^ a<18446744073709551616 by omega) (show 2 ^ b<18446744073709551616 by omega) (show zs<18446744073709551616 by omega)
   have h0:=mJ hwo (x:=2 ^ a) (y:=2 ^ b) (z:=zs) (by rw[hwl];exact hA) (by rw[hwl];exact hB) (by rw[hwl];exact hz) (mL (Ne.symm hab)) (eV hza) (eV hzb)
   rw[h0] at kA
   simp only[sz,simprocAttr,kA,hsa,hsb]
   exact ⟨fun _=>True,_,_,rfl,eK.2 (by rw[S.aF,decide_eq_true c];rfl),c_.2 rfl⟩
  ·have hc:¬((S.dn p (2 ^ a) p.length &&& zs:Nat):Int)=0:=by omega
   simp only[sz,simprocAttr,cR,kb,bp _ zs (show S.dn p (2 ^ a) p.length<18446744073709551616 by omega) (show zs<18446744073709551616 by omega),hc]
   exact ⟨fun _=>True,_,_,rfl,eK.2 (by rw[S.aF,decide_eq_false c];rfl),c_.2 rfl⟩
 obtain ⟨r,h1,a',b',rfl,h2,h3⟩:=key
 have h2:=eK.1 h2
 have h3:=c_.1 h3
 injection h2 with h2
 injection h3 with h3
 rw[h1,h2,h3]
theorem sU {d:Nat}{g:G}{v:AV}{p:List Nat}{x y:Int}{zs:Nat}(hd:0<d)(hv:SlR NoP 0 .nil p v)(hz:zs<18446744073709551616) :
  ap C0 d N.aB [v,.int .i64 x,.int .i64 y,.int .u64 (zs:Int)] g=.val (.tup [.bool (decide (S.ae p x y zs 0=0)&&S.aF p x.toNat y.toNat zs),.int .i64 (S.ae p x y zs 0)]):=by
 have key:∃r,ap C0 d N.aB [v,.int .i64 x,.int .i64 y,.int .u64 (zs:Int)] g=.val r/\ta (One (decide (S.ae p x y zs 0=0)&&S.aF p x.toNat y.toNat zs)) (One (S.ae p x y zs 0)) NoP 0 .nil r:=by
  have e:=ig (h:=g.h) d (hv.tree (h':=g.h) (Nat.le_refl 0))
  have kc:=fun g=>pZ (d:=d+1) (g:=g) (x:=x) (y:=y) (Nat.succ_pos d) hv hz
  rw[jT]
  refine fu lL (xs:=[v,.int .i64 x,.int .i64 y,.int .u64 (zs:Int)]) (by simp only[aA,e,aW]) (by simp[cW]) (j8 (m:=1) (dw _) (dw _) (by decide) (by decide)) (by decide) hd ?_
  by_cases c:S.ae p x y zs 0=0
  ·obtain ⟨hG,a,b,rfl,rfl,ha,hb,hab,hzl,hza,hzb⟩:=nB c
   have kB:=fun g=>uR (d:=d+1) (g:=g) (Nat.succ_pos d) hv hG ha hb hab hzl hza hzb
   simp only[sz,simprocAttr,cW,kc,c,kB]
   exact ⟨fun _=>True,_,_,rfl,eK.2 (by simp),c_.2 rfl⟩
  ·simp only[sz,simprocAttr,cW,kc,c]
   exact ⟨fun _=>True,_,_,rfl,eK.2 (by simp),c_.2 rfl⟩
 obtain ⟨r,h1,a',b',rfl,h2,h3⟩:=key
 have h2:=eK.1 h2
 have h3:=c_.1 h3
 injection h2 with h2
 injection h3 with h3
 rw[h1,h2,h3]
theorem zm {p:List Nat}{x z:Nat}(hG:GOk p)(hx:x<2 ^ p.length)(hz:z<2 ^ p.length)(h2:z &&& x=0):S.ap p x 0 z=true:=by
 rw[ke hG hx (Nat.two_pow_pos _) hz (Nat.zero_and x) h2 (Nat.and_zero z),Nat.and_zero];rfl
theorem x7 {p:List Nat}{y z:Nat}(hG:GOk p)(hy:y<2 ^ p.length)(hz:z<2 ^ p.length)(h3:z &&& y=0):S.ap p 0 y z=true:=by
 rw[ke hG (Nat.two_pow_pos _) hy hz (Nat.and_zero y) (Nat.and_zero z) h3]
 have:S.aq p 0 z=0:=iE fun i _ h=>by
  obtain ⟨⟨d,hr⟩,-⟩:=h
  rcases Dx hr with ⟨h,-⟩ | ⟨x,-,h,-⟩
  ·rw[Bt,Nat.zero_testBit] at h;cases h
  ·rw[Bt,Nat.zero_testBit] at h;cases h
 rw[this,Nat.zero_and];rfl
theorem qA {d:Nat}{g:G}{v:AV}{p:List Nat}{x y:Int}{zs:Nat}(hd:0<d)(hv:SlR NoP 0 .nil p v)(hz:zs<18446744073709551616) :
  ap C0 d N.aD [v,.int .i64 x,.int .i64 y,.int .u64 (zs:Int)] g=.val (.tup [.bool (decide (S.ae p x y zs 0=0)&&S.aA p x.toNat y.toNat zs),.int .i64 (S.ae p x y zs 0)]):=by
 have key:∃r,ap C0 d N.aD [v,.int .i64 x,.int .i64 y,.int .u64 (zs:Int)] g=.val r/\ta (One (decide (S.ae p x y zs 0=0)&&S.aA p x.toNat y.toNat zs)) (One (S.ae p x y zs 0)) NoP 0 .nil r:=by
  have e:=ig (h:=g.h) d (hv.tree (h':=g.h) (Nat.le_refl 0))
  have kc:=fun g=>pZ (d:=d+1) (g:=g) (x:=x) (y:=y) (Nat.succ_pos d) hv hz
  rw[jC]
  refine fu lj (xs:=[v,.int .i64 x,.int .i64 y,.int .u64 (zs:Int)]) (by simp only[aA,e,aW]) (by simp[bk]) (j8 (m:=1) (dw _) (dw _) (by decide) (by decide)) (by decide) hd ?_
  by_cases c:S.ae p x y zs 0=0
  ·have hc:=c
   obtain ⟨hG,a,b,rfl,rfl,ha,hb,hab,hzl,hza,hzb⟩:=nB c
   have n8:=hG.l8
   have h256:=iU n8
   have hA:=uM ha
   have hB:=uM hb
   have w1:=rD (s:=2 ^ a) hG
   have l1:=gQ (p:=p) (2 ^ a)
   have w2:=rD (s:=zs) hG
   have l2:=gQ (p:=p) zs
   have kb:=fun g=>tJ (d:=d+1) (g:=g) (x:=a) (s:=zs) (Nat.succ_pos d) (hv.tree (h':=g.h) (Nat.le_refl 0)) n8 ha hz
   obtain ⟨D,hD⟩:∃D,D=S.dn (S.ct p zs) (2 ^ a) p.length:=⟨_,rfl⟩
   have hbp:=x8 (z:=zs) hG.hp ha hab
   have hDl:D<2 ^ p.length:=by
    have:=nZ (p:=S.ct p zs) (s:=2 ^ a) (by rw[lS];exact hA) p.length
    rw[lS] at this
    rw[hD];exact this
   rw[<-hD] at kb hbp
   have hsa:aX .shl (.int .u64 1) (.int .i64 (a:Int))=.val (.int .u64 ((2 ^ a:Nat):Int)):=by rw[aG,cP (by omega)]
   have hsb:aX .shl (.int .u64 1) (.int .i64 (b:Int))=.val (.int .u64 ((2 ^ b:Nat):Int)):=by rw[aG,cP (by omega)]
   have hD64:D<18446744073709551616:=by omega
   have hbb:decide (((D / 2 ^ b &&& 1:Nat):Int)=1)=S.aB p zs b a:=by
    rw[<-hbp,rZ]
    cases D.testBit b<;>rfl
   have fin:∀{h:H} {r:Bool},S.aA p a b zs=r->∃P,ta (One (true&&S.aA p (a:Int).toNat (b:Int).toNat zs)) (One (0:Int)) P 0 h (.tup [.bool r,.int .i64 0]):=fun h1 =>
    ⟨fun _=>True,_,_,rfl,eK.2 (by rw[Bool.true_and,Int.toNat_natCast,Int.toNat_natCast,h1]),c_.2 rfl⟩
   cases hpas:S.aB p zs b a with
   | true =>
    rw[hpas] at hbb
    simp only[sz,simprocAttr,bk,kc,c,kb,aJ _ _ _ hD64,li hD64,hbb]
    exact fin (by rw[S.aA,hpas];rfl)
   | false =>
    rw[hpas] at hbb
    by_cases cz:zs=0
    ·have cz':decide ((zs:Int)=0)=true:=decide_eq_true (by omega)
     simp only[sz,simprocAttr,bk,kc,c,kb,aJ _ _ _ hD64,li hD64,hbb,cz']
     refine fin ?_
     rw[S.aA,hpas]
     subst cz
     rw[zm w1 (by rw[l1];exact hA) (Nat.two_pow_pos _) (Nat.zero_and _),x7 w2 (by rw[l2];exact hB) (by rw[l2];exact hA) (mL hab)];rfl
    ·have cz':¬(zs:Int)=0:=by omega
     simp only[sz,simprocAttr,bk,kc,c,kb,aJ _ _ _ hD64,li hD64,hbb,cz',hsa]
     refine iy (lP (Nat.succ_pos d) (hv.tree (Nat.le_refl 0)) n8 hG.l1 (show 2 ^ a<18446744073709551616 by omega)) fun r hr=>?_
     obtain ⟨_,er,hr⟩:=aK.1 hr
     injection er with er
     subst er
     have kA:∀g,ap C0 (d+1) N.af [r,.int .u64 ((2 ^ a:Nat):Int),.int .u64 (zs:Int),.int .u64 0] g=.val (.tup [.bool (S.ap (S.wo p (2 ^ a)) (2 ^ a) zs 0),.int .i64 (S.az (S.wo p (2 ^ a)) [2 ^ a,zs,0])]):=fun g=>nJ (d:=d+1) (g:=g) (zs:=0) (Nat.succ_pos d) hr (show 2 ^ a<18446744073709551616 by omega) hz (by decide)
     have h0:=mJ w1 (x:=2 ^ a) (y:=zs) (z:=0) (by rw[l1];exact hA) (by rw[l1];exact hzl) (Nat.two_pow_pos _) (eV hza) (Nat.zero_and _) (Nat.zero_and _)
     rw[h0] at kA
     cases hA1:S.ap (S.wo p (2 ^ a)) (2 ^ a) zs 0 with
     | false =>
      rw[hA1] at kA
      simp only[sz,simprocAttr,kA,hsa]
      exact fin (by rw[S.aA,hpas,hA1];rfl)
     | true =>
      rw[hA1] at kA
      simp only[sz,simprocAttr,kA,hsb,hsa]
      refine iy (lP (Nat.succ_pos d) (hv.tree (Nat.le_refl 0)) n8 hG.l1 hz) fun r2 hr2=>?_
      obtain ⟨_,er,hr2⟩:=aK.1 hr2
      injection er with er
      subst er
      have kA2:=fun g=>nJ (d:=d+1) (g:=g) (Nat.succ_pos d) hr2 hz (show 2 ^ b<18446744073709551616 by omega) (show 2 ^ a<18446744073709551616 by omega)
      have h02:=mJ w2 (x:=zs) (y:=2 ^ b) (z:=2 ^ a) (by rw[l2];exact hzl) (by rw[l2];exact hB) (by rw[l2];exact hA) (j9 hzb) (j9 hza) (mL hab)
      rw[h02] at kA2
      simp only[sz,simprocAttr,kA2,hsb,hsa]
      exact fin (by rw[S.aA,hpas,hA1];simp)
  ·simp only[sz,simprocAttr,bk,kc,c]
   exact ⟨fun _=>True,_,_,rfl,eK.2 (by simp),c_.2 rfl⟩
 obtain ⟨r,h1,a',b',rfl,h2,h3⟩:=key
 have h2:=eK.1 h2
 have h3:=c_.1 h3
 injection h2 with h2
 injection h3 with h3
 rw[h1,h2,h3]
theorem Bc {d k:Nat}{g:G}{P:Nat->Prop}{v:AV}{p:List Nat}{a b zs:Nat}(hd:0<d)(hv:SlR P k g.h p v)(hG:GOk p)(ha:a<p.length)(hb:b<p.length)(hab:a≠b)(hz:zs<2 ^ p.length)(hza:zs.testBit a=false)(hzb:zs.testBit b=false) :
  ap C0 d N.aK [v,.int .i64 (a:Int),.int .i64 (b:Int),.int .u64 (zs:Int)] g=.val (.bool (S.aF p a b zs)):=by
 obtain ⟨v',e,r1⟩:=bY hv d
 have n8:=hG.l8
 have h256:=iU n8
 have w1:=rD (s:=2 ^ a) hG
 have l1:=gQ (p:=p) (2 ^ a)
 have hA:=uM ha
 have hB:=uM hb
 have hdn:=nZ (p:=p) (s:=2 ^ a) hA p.length
 have wa:IntKind.wrap .u64 (a:Int)=(a:Int):=cU (by omega) (by omega)
 have wb:IntKind.wrap .u64 (b:Int)=(b:Int):=cU (by omega) (by omega)
 have hsa:aX .shl (.int .u64 1) (.int .u64 (a:Int))=.val (.int .u64 ((2 ^ a:Nat):Int)):=by rw[aG,cP (by omega)]
 have hsb:aX .shl (.int .u64 1) (.int .u64 (b:Int))=.val (.int .u64 ((2 ^ b:Nat):Int)):=by rw[aG,cP (by omega)]
 have kD:=fun g=>wM (d:=d+1) (g:=g) (Nat.succ_pos d) (r1 g.h) n8 hA
 have hz64:zs<18446744073709551616:=by omega
 rw[kY]
 refine cG mT (xs:=[v',.int .i64 (a:Int),.int .i64 (b:Int),.int .u64 (zs:Int)]) (by simp only[aA,e,aW]) (by simp[dl]) hd ?_
 by_cases c:S.dn p (2 ^ a) p.length &&& zs=0
 ·have hc:((S.dn p (2 ^ a) p.length &&& zs:Nat):Int)=0:=by omega
  simp only[sz,simprocAttr,dl,wa,wb,hsa,hsb,kD,bp _ zs (show S.dn p (2 ^ a) p.length<18446744073709551616 by omega) hz64,hc]
  refine iy (jZ (Nat.succ_pos d) (r1 _) n8 (show 2 ^ a<18446744073709551616 by omega)) fun r hr=>?_
  obtain ⟨_,er,hr⟩:=aK.1 hr
  injection er with er
  subst er
  have kA:=fun g:G=>nG (d:=d+1) (g:=g) (Nat.succ_pos d) (hr.tree (h':=g.h) (Nat.le_refl 0)) w1 (xs:=2 ^ a) (ys:=2 ^ b) (zs:=zs) (by rw[l1];exact hA) (by rw[l1];exact hB) (by rw[l1];exact hz) (j9 hza)
  have hav:=ke w1 (x:=2 ^ a) (y:=2 ^ b) (z:=zs) (by rw[l1];exact hA) (by rw[l1];exact hB) (by rw[l1];exact hz) (mL (Ne.symm hab)) (eV hza) (eV hzb)
  rw[<-hav] at kA
  have:S.aF p a b zs=S.ap (S.wo p (2 ^ a)) (2 ^ a) (2 ^ b) zs:=by rw[S.aF,decide_eq_true c];rfl
  simp only[sz,simprocAttr,kA,this]
 ·have hc:¬((S.dn p (2 ^ a) p.length &&& zs:Nat):Int)=0:=by omega
  have:S.aF p a b zs=false:=by rw[S.aF,decide_eq_false c];rfl
  simp only[sz,simprocAttr,dl,wa,wb,hsa,hsb,kD,bp _ zs (show S.dn p (2 ^ a) p.length<18446744073709551616 by omega) hz64,hc,this]
theorem yM {d k:Nat}{g:G}{P:Nat->Prop}{v:AV}{p:List Nat}{a b zs:Nat}(hd:0<d)(hv:SlR P k g.h p v)(hG:GOk p)(ha:a<p.length)(hb:b<p.length)(hab:a≠b)(hz:zs<2 ^ p.length)(hza:zs.testBit a=false)(hzb:zs.testBit b=false) :
  ap C0 d N.aF [v,.int .i64 (a:Int),.int .i64 (b:Int),.int .u64 (zs:Int)] g=.val (.bool (S.aA p a b zs)):=by
 obtain ⟨v',e,r1⟩:=bY hv d
 have n8:=hG.l8
 have h256:=iU n8
 have w1:=rD (s:=2 ^ a) hG
 have l1:=gQ (p:=p) (2 ^ a)
 have w2:=rD (s:=zs) hG
 have l2:=gQ (p:=p) zs
 have hA:=uM ha
 have hB:=uM hb
 have wa:IntKind.wrap .u64 (a:Int)=(a:Int):=cU (by omega) (by omega)
 have wb:IntKind.wrap .u64 (b:Int)=(b:Int):=cU (by omega) (by omega)
 have hsa:aX .shl (.int .u64 1) (.int .u64 (a:Int))=.val (.int .u64 ((2 ^ a:Nat):Int)):=by rw[aG,cP (by omega)]
 have hsb:aX .shl (.int .u64 1) (.int .u64 (b:Int))=.val (.int .u64 ((2 ^ b:Nat):Int)):=by rw[aG,cP (by omega)]
 have kp:∀g,ap C0 (d+1) N.am [v',.int .i64 (a:Int),.int .i64 (b:Int),.int .u64 (zs:Int)] g=.val (.bool (S.aB p zs b a)):=fun g=>x_ hG hz hzb _ (Nat.succ_pos d) (r1 g.h) ha (Nat.le_refl _)
 have hz64:zs<18446744073709551616:=by omega
 rw[kn]
 refine cG mh (xs:=[v',.int .i64 (a:Int),.int .i64 (b:Int),.int .u64 (zs:Int)]) (by simp only[aA,e,aW]) (by simp[cS]) hd ?_
 cases hpas:S.aB p zs b a with
 | true =>
  have:S.aA p a b zs=false:=by rw[S.aA,hpas];rfl
  simp only[sz,simprocAttr,cS,wa,wb,hsa,hsb,kp,hpas,this]
 | false =>
  have hf:S.aA p a b zs=(S.ap (S.wo p (2 ^ a)) (2 ^ a) zs 0&&S.ap (S.wo p zs) zs (2 ^ b) (2 ^ a)):=by rw[S.aA,hpas];rfl
  simp only[sz,simprocAttr,cS,wa,wb,hsa,hsb,kp,hpas]
  refine iy (jZ (Nat.succ_pos d) (r1 _) n8 (show 2 ^ a<18446744073709551616 by omega)) fun r hr=>?_
  obtain ⟨_,er,hr⟩:=aK.1 hr
  injection er with er
  subst er
  have kA:∀g,ap C0 (d+1) N.ah [r,.int .u64 ((2 ^ a:Nat):Int),.int .u64 (zs:Int),.int .u64 0] g=.val (.bool (S.ap (S.wo p (2 ^ a)) (2 ^ a) zs 0)):=fun g=>by
   have h1:=nG (d:=d+1) (g:=g) (Nat.succ_pos d) (hr.tree (h':=g.h) (Nat.le_refl 0)) w1 (xs:=2 ^ a) (ys:=zs) (zs:=0) (by rw[l1];exact hA) (by rw[l1];exact hz) (Nat.two_pow_pos _) (Nat.and_zero _)
   rw[<-ke w1 (by rw[l1];exact hA) (by rw[l1];exact hz) (Nat.two_pow_pos _) (eV hza) (Nat.zero_and _) (Nat.zero_and _)] at h1
   exact h1
  cases hA1:S.ap (S.wo p (2 ^ a)) (2 ^ a) zs 0 with
  | false =>
   rw[hA1] at kA
   have:S.aA p a b zs=false:=by rw[hf,hA1];rfl
   simp only[sz,simprocAttr,kA,this]
  | true =>
   rw[hA1] at kA
   simp only[sz,simprocAttr,kA]
   refine iy (jZ (Nat.succ_pos d) (r1 _) n8 hz64) fun r2 hr2=>?_
   obtain ⟨_,er,hr2⟩:=aK.1 hr2
   injection er with er
   subst er
   have kA2:=fun g:G=>nG (d:=d+1) (g:=g) (Nat.succ_pos d) (hr2.tree (h':=g.h) (Nat.le_refl 0)) w2 (xs:=zs) (ys:=2 ^ b) (zs:=2 ^ a) (by rw[l2];exact hz) (by rw[l2];exact hB) (by rw[l2];exact hA) (eV hza)
   have hav:=ke w2 (x:=zs) (y:=2 ^ b) (z:=2 ^ a) (by rw[l2];exact hz) (by rw[l2];exact hB) (by rw[l2];exact hA) (j9 hzb) (j9 hza) (mL hab)
   rw[<-hav] at kA2
   have:S.aA p a b zs=S.ap (S.wo p zs) zs (2 ^ b) (2 ^ a):=by rw[hf,hA1];rfl
   simp only[sz,simprocAttr,kA2,this]
theorem tZ {d:Nat}{g:G}{x:sg}{raw:List Nat}{w:AV}{xs:List AV}(hd:0<d)(hx:Rp.rp NoP 0 .nil x xs)(hw:SlR NoP 0 .nil raw w)(hr:Raw w) :
  ∃r,ap C0 d N.aG [w,.agg xs] g=.val r/\GsV NoP 0 .nil r:=by
 have hm:∀h,Agg x NoP 0 h (.agg xs):=fun h=>⟨_,rfl,Rp.tree hx (Nat.le_refl _)⟩
 have e1:=p_ d (hm g.h)
 have e2:=ig (h:=g.h) d (hw.tree (Nat.le_refl 0))
 obtain ⟨_,_,rfl,ha',hb'⟩:=eP.1 hx
 obtain ⟨a,rfl,-⟩:=aK.1 ha'
 obtain ⟨b,rfl,-⟩:=aK.1 hb'
 rw[mz]
 refine fu oo (xs:=[w,.agg ([a]++[b])]) (by simp only[aA,e1,e2]) (by simp[gN]) DI (by decide) hd ?_
 obtain ⟨w1,s1,hw1,hr1⟩:=CD hw hr (c:=min raw.length 9) (by omega)
 obtain ⟨w2,s2,hw2,-⟩:=CD hw1 hr1 (c:=0) (by omega)
 have mn9:min (raw.length:Int) 9=((min raw.length 9:Nat):Int):=by omega
 have s2:∀g,tv 1 w1 none (some (.int .i64 0)) g=.val w2:=s2
 have lw:=hw.len
 have lw1:=hw1.len
 have kR:=fun g:G=>ru (d:=d+1) (g:=g) (Nat.succ_pos d) (hw1.tree (h':=g.h) (Nat.le_refl 0))
 have ld:aL (.cells 2 [[a,b]] 0 false false) 0 0 true 2 0=.val (.agg [a,b]):=rfl
 have rest:∀(t:T) (g:G) (wl:AV) (l:List Nat),SlR NoP 0 .nil l wl->St t [(0,wl),(3,.hptr 0 0 0 0),(4,.hptr 1 0 0 0)]->g.h.get 0=.cells 2 [[a,b]] 0 false false->g.h.get 1=.cells 2 [[.nils,.nils]] 0 false false ->
   wp C0 (d+1) none eW (fnQ C0 (d+1) [SR.cell true 2 4] fun v g'=>∃P,GsV P 0 g'.h v) t [] g:=by
  rintro t g wl l hwl ⟨h0,h3,h4,-⟩ g0 g1
  simp only[sz,simprocAttr,eW,h0,h3,g0,ld]
  refine iy (x4 (Nat.succ_pos d) (hm _)) ?_
  rintro z ⟨p,-,hz⟩
  have hz:SlR NoP 0 .nil p z:=by
   obtain ⟨z',e,hz'⟩:=aK.1 hz
   injection e with e
   subst e
   exact hz'
  have fw:fC [.nils,.nils] [((0,1),wl),((1,1),z)]=some [wl,z]:=by
   simp[fC,hwl.cell,hz.cell,jP]
   rfl
  simp only[sz,simprocAttr,h4,g1,fw]
  exact ⟨fun _=>True,(l,p),trivial,_,rfl,eP.2 ⟨[wl],[z],rfl,aK.2 ⟨_,rfl,hwl.wide (Nat.le_refl 0)⟩,aK.2 ⟨_,rfl,hz.wide (Nat.le_refl 0)⟩⟩⟩
 simp only[sz,simprocAttr,gN,iO,List.cons_append,List.nil_append,lw,mn9,List.head?_nil,List.head?_cons,s1,kR]
 cases S.ax (raw.take (min raw.length 9)) with
 | false =>
  simp only[sz,simprocAttr]
  exact rest _ _ w1 _ hw1 (by simp[St,sx]) (by simp[sx,H.get_put]) (by simp[sx,H.get_put])
 | true =>
  simp only[sz,simprocAttr,lw1]
  by_cases c:(6:Int)<((raw.take (min raw.length 9)).length:Int)
  ·simp only[sz,simprocAttr,c,List.head?_nil,List.head?_cons,s2]
   exact rest _ _ w2 _ hw2 (by simp[St,sx]) (by simp[sx,H.get_put]) (by simp[sx,H.get_put])
  ·simp only[sz,simprocAttr,c]
   exact rest _ _ w1 _ hw1 (by simp[St,sx]) (by simp[sx,H.get_put]) (by simp[sx,H.get_put])
def LC0 (A gv T54:AV)(x y:Int)(zs kk a b i j:Nat):List (Nat×AV):=[(2,.int .i64 x),(3,.int .i64 y),(4,.int .u64 (zs:Int)),(5,.int .u8 (kk:Int)),(14,gv),(15,.int .i64 (a:Int)),(16,.int .i64 (b:Int)),(30,A),(31,.int .i64 (i:Int)),(54,T54),(55,.int .i64 (j:Int))]
theorem D2 (b:Bool):B7 true .bool (.bool b) (.bool b)=.val (.bool false):=by cases b<;>rfl
theorem By {d:Nat}{Q:QT}{t:T}{g:G}{A gv T54 T64:AV}{x y:Int}{zs kk a b i j s:Nat}{p:List Nat}(hd:0<d)(hv:SlR NoP 0 .nil p gv)(hs:s<18446744073709551616)
  (hix:∀k:Nat,k<2->∃u w:Int,ixV true 2 2 T64 (.int .i64 (k:Int))=.val (.agg [.int .i64 u,.int .i64 w]))
  (ht:St t ((18,.int .u64 (s:Int))::(64,T64)::LC0 A gv T54 x y zs kk a b i j)) (h65:tat t 65=.int .i64 0)
  (fin:∀t g',St t (LC0 A gv T54 x y zs kk a b i j)->Fr g g'->Q (.exit 4) t [] g'):wpL (wp C0 d none bP) Q t [] g:=by
 simp only[bP]
 refine jV (m:=2) rfl (by omega) (fun k t df g'=>df=[]/\Fr g g'/\St t ((18,.int .u64 (s:Int))::(64,T64)::LC0 A gv T54 x y zs kk a b i j)) ⟨rfl,Fr.refl _,ht⟩ h65 (by decide)
  (by rintro j t df g v s (rfl | rfl | rfl) ⟨a1,a2,⟨b1,b2,b3,b4,b5,b6,b7,b8,b9,b10,b11,b12,b13,-⟩⟩<;>exact ⟨a1,a2,by simp[St,LC0,sx,b1,b2,b3,b4,b5,b6,b7,b8,b9,b10,b11,b12,b13]⟩) ?_ ?_
 ·rintro k t df g1 hk ⟨rfl,hF,h18,h64,h2,h3,h4,h5,h14,h15,h16,h30,h31,h54,h55,-⟩ h65
  obtain ⟨u,w,hi⟩:=hix k hk
  have hv':∀h,SlR NoP 0 h p gv:=fun h=>hv.tree (Nat.le_refl 0)
  have i0:∀id,AZ 2 1 (.hptr id 0 0 0) (.int .i64 0)=.val (.hptr id 0 0 0):=fun id=>rfl
  have i1:∀id,AZ 2 1 (.hptr id 0 0 0) (.int .i64 1)=.val (.hptr id 0 0 1):=fun id=>rfl
  have l0:aL (.cells 2 [[.int .i64 u,.int .i64 w]] 0 false false) 0 0 false 1 0=.val (.int .i64 u):=rfl
  have l1:aL (.cells 2 [[.int .i64 u,.int .i64 w]] 0 false false) 0 0 false 1 1=.val (.int .i64 w):=rfl
  obtain ⟨r,hr⟩:∃r,r=g1.nx:=⟨_,rfl⟩
  refine kw (P:=fun t' df g'=>df=[]/\St t' ((20,.hptr r 0 0 0)::(65,.int .i64 (k:Int))::(18,.int .u64 (s:Int))::(64,T64)::LC0 A gv T54 x y zs kk a b i j)/\Fr g g'/\r<g'.nx/\g'.h.get r=.cells 2 [[.int .i64 u,.int .i64 w]] 0 false false) ?_ ?_
  ·simp only[sz,simprocAttr,h64,h65,hi]
   refine ⟨by simp[St,LC0,sx,h2,h3,h4,h5,h14,h15,h16,h18,h30,h31,h54,h55,h64,h65,hr],⟨by have:=hF.1;simp;omega,fun i hi=>?_⟩,by simp[hr],by simp[H.get_put,hr]⟩
   have:=hF.1
   rw[<-hF.2 i hi]
   simp[H.get_put,show ¬i=g1.nx by omega]
  clear h2 h3 h4 h5 h14 h15 h16 h18 h30 h31 h54 h55 h64 h65 hr
  rintro t df g2 ⟨rfl,⟨h20,h65,h18,h64,h2,h3,h4,h5,h14,h15,h16,h30,h31,h54,h55,-⟩,hF2,hr,hg⟩
  have kF:∀g,ap C0 d N.ay [gv,.int .i64 u,.int .i64 w,.int .u64 (s:Int),.int .u64 0] g=.val (.int .i64 (S.ae p u w s 0)):=fun g=>sj (seen:=0) hd (hv' g.h) hs (by decide)
  have kB:=fun g=>sU (d:=d) (g:=g) (x:=u) (y:=w) hd hv hs
  have kN:=fun g=>qA (d:=d) (g:=g) (x:=u) (y:=w) hd hv hs
  by_cases c:S.ae p u w s 0=0
  ·obtain ⟨hG,a',b',rfl,rfl,ha,hb,hab,hzl,hza,hzb⟩:=nB c
   have kRB:=fun g:G=>Bc (d:=d) (g:=g) hd (hv' g.h) hG ha hb hab hzl hza hzb
   have kRN:=fun g:G=>yM (d:=d) (g:=g) hd (hv' g.h) hG ha hb hab hzl hza hzb
   have e1:(decide (S.ae p a' b' s 0=0)&&S.aF p (a':Int).toNat (b':Int).toNat s)=S.aF p a' b' s:=by rw[c];simp
   have e2:(decide (S.ae p a' b' s 0=0)&&S.aA p (a':Int).toNat (b':Int).toNat s)=S.aA p a' b' s:=by rw[c];simp
   rw[e1,c] at kB
   rw[e2,c] at kN
   rw[c] at kF
   simp only[sz,simprocAttr,h14,h18,h20,i0,i1,hg,l0,l1,kF,kB,kN,kRB,kRN,D2]
   exact ⟨⟨hF2,by simp[St,LC0,sx,h2,h3,h4,h5,h14,h15,h16,h18,h30,h31,h54,h55,h64]⟩,h65⟩
  ·have e1:(decide (S.ae p u w s 0=0)&&S.aF p u.toNat w.toNat s)=false:=by rw[decide_eq_false c];rfl
   have e2:(decide (S.ae p u w s 0=0)&&S.aA p u.toNat w.toNat s)=false:=by rw[decide_eq_false c];rfl
   rw[e1] at kB
   rw[e2] at kN
   simp only[sz,simprocAttr,h14,h18,h20,i0,i1,hg,l0,l1,kF,kB,kN,c,D2]
   exact ⟨⟨hF2,by simp[St,LC0,sx,h2,h3,h4,h5,h14,h15,h16,h18,h30,h31,h54,h55,h64]⟩,h65⟩
 ·rintro t df g' ⟨rfl,hF,-,-,ht⟩
  exact fin t g' ht hF
def LC1 (A gv T54:AV)(x y:Int)(zs kk a b i:Nat):List (Nat×AV):=[(2,.int .i64 x),(3,.int .i64 y),(4,.int .u64 (zs:Int)),(5,.int .u8 (kk:Int)),(14,gv),(15,.int .i64 (a:Int)),(16,.int .i64 (b:Int)),(30,A),(31,.int .i64 (i:Int)),(54,T54)]
theorem CC {d:Nat}{Q:QT}{t:T}{g:G}{A gv T54:AV}{x y:Int}{zs kk a b i:Nat}{p:List Nat}(hd:0<d)(hv:SlR NoP 0 .nil p gv)
  (hix:∀k:Nat,k<2->∃s:Nat,s<18446744073709551616/\ixV false 2 1 T54 (.int .i64 (k:Int))=.val (.int .u64 (s:Int)))
  (ht:St t (LC1 A gv T54 x y zs kk a b i)) (h55:tat t 55=.int .i64 0)
  (fin:∀t g',St t (LC1 A gv T54 x y zs kk a b i)->Fr g g'->Q (.exit 2) t [] g'):wpL (wp C0 d none bM) Q t [] g:=by
 simp only[bM,dC]
 refine jV (m:=2) rfl (by omega) (fun k t df g'=>df=[]/\Fr g g'/\St t (LC1 A gv T54 x y zs kk a b i)) ⟨rfl,Fr.refl _,ht⟩ h55 (by decide)
  (by rintro j t df g v s (rfl | rfl | rfl) ⟨a1,a2,⟨b1,b2,b3,b4,b5,b6,b7,b8,b9,b10,-⟩⟩<;>exact ⟨a1,a2,by simp[St,LC1,sx,b1,b2,b3,b4,b5,b6,b7,b8,b9,b10]⟩) ?_ ?_
 ·rintro k t df g1 hk ⟨rfl,hF,h2,h3,h4,h5,h14,h15,h16,h30,h31,h54,-⟩ h55
  obtain ⟨s,hs,hi⟩:=hix k hk
  refine kw (P:=fun t' df g'=>df=[]/\g'=g1/\St t' ((18,.int .u64 (s:Int))::LC0 A gv T54 x y zs kk a b i k)) ?_ ?_
  ·simp only[sz,simprocAttr,h54,h55,hi]
   simp[St,LC0,sx,h2,h3,h4,h5,h14,h15,h16,h30,h31,h54,h55]
  clear h2 h3 h4 h5 h14 h15 h16 h30 h31 h54 h55
  rintro t df g2 ⟨rfl,hg2,h18,h2,h3,h4,h5,h14,h15,h16,h30,h31,h54,h55,-⟩
  rw[hg2];clear hg2
  refine kw (P:=fun t' df g'=>df=[]/\g'=g1/\St t' ((65,.int .i64 0)::(18,.int .u64 (s:Int))::(64,.agg [.int .i64 x,.int .i64 y,.int .i64 (a:Int),.int .i64 (b:Int)])::LC0 A gv T54 x y zs kk a b i k)) ?_ ?_
  ·simp only[sz,simprocAttr,h2,h3,h15,h16]
   simp[St,LC0,sx,h2,h3,h4,h5,h14,h15,h16,h18,h30,h31,h54,h55]
  clear h2 h3 h4 h5 h14 h15 h16 h18 h30 h31 h54 h55
  rintro t df g2 ⟨rfl,hg2,h65,ht⟩
  rw[hg2];clear hg2
  simp only[sz,simprocAttr]
  refine By (p:=p) hd hv hs (fun k hk=>?_) ht h65 ?_
  ·match k,hk with
   | 0,_=>exact ⟨x,y,rfl⟩
   | 1,_=>exact ⟨a,b,rfl⟩
  rintro t g2 ⟨h2,h3,h4,h5,h14,h15,h16,h30,h31,h54,h55,-⟩ hF2
  simp only[sz,simprocAttr]
  exact ⟨⟨hF.trans hF2,h2,h3,h4,h5,h14,h15,h16,h30,h31,h54,trivial⟩,h55⟩
 ·rintro t df g' ⟨rfl,hF,ht⟩
  exact fin t g' ht hF
theorem Cj {d:Nat}{Q:QT}{t:T}{g:G}{A:AV}{x y:Int}{zs kk:Nat}(hd:0<d)(hz:zs<18446744073709551616)(hk8:kk<256)
  (hA:∀j:Nat,j<2->∃(gv:AV) (p:List Nat),SlR NoP 0 .nil p gv/\ixV false 2 1 A (.int .i64 (j:Int))=.val gv)
  (ht:St t [(2,.int .i64 x),(3,.int .i64 y),(4,.int .u64 (zs:Int)),(5,.int .u8 (kk:Int)),(30,A)]) (h31:tat t 31=.int .i64 0)
  (fin:∀t g',Q (.exit 0) t [] g'):wpL (wp C0 d none bQ) Q t [] g:=by
 simp only[bQ,dE]
 refine jV (m:=2) rfl (by omega) (fun j t df g'=>df=[]/\St t [(2,.int .i64 x),(3,.int .i64 y),(4,.int .u64 (zs:Int)),(5,.int .u8 (kk:Int)),(30,A)]) ⟨rfl,ht⟩ h31 (by decide)
  (by rintro j t df g v s (rfl | rfl | rfl) ⟨a1,⟨b1,b2,b3,b4,b5,-⟩⟩<;>exact ⟨a1,by simp[St,sx,b1,b2,b3,b4,b5]⟩) ?_ ?_
 ·rintro j t df g1 hj ⟨rfl,h2,h3,h4,h5,h30,-⟩ h31
  obtain ⟨gv,p,hv,hi⟩:=hA j hj
  have lv:=hv.len
  obtain ⟨m,hm,hml⟩:=A4 ((S.an p.length:Int) - 1)
  have hsl:aX .shl (.int .u64 1) (.int .i64 (p.length:Int))=.val (.int .u64 (S.an p.length:Int)):=aG .i64 p.length
  obtain ⟨a,ea,ha⟩:∃a:Nat,a=kk % 6/\a<6:=⟨_,rfl,by omega⟩
  obtain ⟨b,eb,hb⟩:∃b:Nat,b=kk / 6 % 6/\b<6:=⟨_,rfl,by omega⟩
  have r1:aX .rem (.int .u8 (kk:Int)) (.int .u8 6)=.val (.int .u8 (a:Int)):=by rw[rU .u8 (by omega) (by omega)];congr 2;omega
  have q1:aX .quo (.int .u8 (kk:Int)) (.int .u8 6)=.val (.int .u8 ((kk / 6:Nat):Int)):=by
   rw[Bs .u8 (by omega) (by omega)]
   have:IntKind.wrap .u8 ((kk:Int) / 6)=((kk / 6:Nat):Int):=by
    show ((kk:Int) / 6) % 256=_
    omega
   rw[this]
  have r2:aX .rem (.int .u8 ((kk / 6:Nat):Int)) (.int .u8 6)=.val (.int .u8 (b:Int)):=by rw[rU .u8 (by omega) (by omega)];congr 2;omega
  have wa:IntKind.wrap .i64 (a:Int)=(a:Int):=eX (by omega) (by omega)
  have wb:IntKind.wrap .i64 (b:Int)=(b:Int):=eX (by omega) (by omega)
  refine kw (P:=fun t' df g'=>df=[]/\g'=g1/\St t' [(14,gv),(31,.int .i64 (j:Int)),(2,.int .i64 x),(3,.int .i64 y),(4,.int .u64 (zs:Int)),(5,.int .u8 (kk:Int)),(30,A)]) ?_ ?_
  ·simp only[sz,simprocAttr,h30,h31,hi]
   simp[St,sx,h2,h3,h4,h5,h30,h31]
  clear h2 h3 h4 h5 h30 h31
  rintro t df g2 ⟨rfl,hg2,h14,h31,h2,h3,h4,h5,h30,-⟩
  rw[hg2];clear hg2
  refine kw (P:=fun t' df g'=>df=[]/\g'=g1/\St t' [(15,.int .i64 (a:Int)),(16,.int .i64 (b:Int)),(14,gv),(31,.int .i64 (j:Int)),(2,.int .i64 x),(3,.int .i64 y),(4,.int .u64 (zs:Int)),(5,.int .u8 (kk:Int)),(30,A)]) ?_ ?_
  ·simp only[sz,simprocAttr,h5,r1,q1,r2,wa,wb]
   simp[St,sx,h2,h3,h4,h5,h14,h30,h31]
  clear h2 h3 h4 h5 h14 h30 h31
  rintro t df g2 ⟨rfl,hg2,h15,h16,h14,h31,h2,h3,h4,h5,h30,-⟩
  rw[hg2];clear hg2
  have hsa:aX .shl (.int .u64 1) (.int .i64 (a:Int))=.val (.int .u64 (S.an a:Int)):=aG .i64 a
  have hsb:aX .shl (.int .u64 1) (.int .i64 (b:Int))=.val (.int .u64 (S.an b:Int)):=aG .i64 b
  have n0:=bp zs m hz hml
  obtain ⟨u0,hu0⟩:∃u,u=zs &&& m:=⟨_,rfl⟩
  have lu0:u0<18446744073709551616:=by rw[hu0];exact zc hz
  rw[<-hu0] at n0
  have n1:=gw u0 (S.an a) lu0 (jK a)
  obtain ⟨u1,hu1⟩:∃u,u=u0 ^^^ u0 &&& S.an a:=⟨_,rfl⟩
  have lu1:u1<18446744073709551616:=by rw[hu1];exact q7 lu0 (jK a)
  rw[<-hu1] at n1
  have n2:=gw u1 (S.an b) lu1 (jK b)
  obtain ⟨u2,hu2⟩:∃u,u=u1 ^^^ u1 &&& S.an b:=⟨_,rfl⟩
  have lu2:u2<18446744073709551616:=by rw[hu2];exact q7 lu1 (jK b)
  rw[<-hu2] at n2
  clear hu0 hu1 hu2
  refine vB (P:=fun t' df g'=>df=[]/\g'=g1/\St t' ((55,.int .i64 0)::LC1 A gv (.agg [.int .u64 (zs:Int),.int .u64 (u2:Int)]) x y zs kk a b j)) ?_ ?_
  ·simp only[sz,simprocAttr,h4,h14,h15,h16,lv,hsl,hm,hsa,hsb,n0,n1,n2]
   simp[St,LC1,sx,h2,h3,h4,h5,h14,h15,h16,h30,h31]
  clear h2 h3 h4 h5 h14 h15 h16 h30 h31
  rintro t df g2 ⟨rfl,hg2,h55,ht⟩
  rw[hg2];clear hg2
  simp only[sz,simprocAttr]
  refine CC (p:=p) hd hv (fun k hk=>?_) ht h55 ?_
  ·match k,hk with
   | 0,_=>exact ⟨zs,hz,rfl⟩
   | 1,_=>exact ⟨u2,lu2,rfl⟩
  rintro t g2 ⟨h2,h3,h4,h5,h14,h15,h16,h30,h31,h54,-⟩ hF2
  simp only[sz,simprocAttr]
  exact ⟨⟨h2,h3,h4,h5,h30,trivial⟩,h31⟩
 ·rintro t df g' ⟨rfl,-⟩
  exact fin t g'
theorem s6 (g:G):ap C0 1 N.aW [] g=.val (.bool true):=by kernel_rfl
theorem lr {x:sg}{raw:List Nat}{w:AV}{xs:List AV}{u v:Int}{zs kk:Nat}(hw:SlR NoP 0 .nil raw w)(hr:Raw w)(hx:Rp.rp NoP 0 .nil x xs)(_:-9223372036854775808<=u/\u<9223372036854775808)(_:-9223372036854775808<=v/\v<9223372036854775808)(hz:zs<18446744073709551616)(hk:kk<256) :
  ∃g',(I C0).call 1 N.aV [w,.agg xs,.int .i64 u,.int .i64 v,.int .u64 (zs:Int),.int .u8 (kk:Int)] G.empty=.ok (.bool true) g':=by
 have hgr:=fun g=>tZ (d:=1) (g:=g) (by decide) hx hw hr
 obtain ⟨_,_,rfl,ha',hb'⟩:=eP.1 hx
 obtain ⟨a,rfl,-⟩:=aK.1 ha'
 obtain ⟨b,rfl,-⟩:=aK.1 hb'
 rw[List.cons_append,List.nil_append] at hgr ⊢
 have key:=ku (C:=C0) (d:=1) (f:=N.aV) («as»:=[w,.agg [a,b],.int .i64 u,.int .i64 v,.int .u64 (zs:Int),.int .u8 (kk:Int)]) (g:=G.empty) (K:=fun v g'=>v=.bool true) iH (by simp[cx]) ?_
 ·cases hc':(I C0).call 1 N.aV [w,.agg [a,b],.int .i64 u,.int .i64 v,.int .u64 (zs:Int),.int .u8 (kk:Int)] G.empty with
  | fail=>rw[hc'] at key;exact key.elim
  | ok v g'=>rw[hc'] at key;exact ⟨g',by rw[show v=.bool true from key]⟩
 have ld:aL (.cells 2 [[a,b]] 0 false false) 0 0 true 2 0=.val (.agg [a,b]):=rfl
 simp only[sz,simprocAttr,cx,Ek,dM,s6,ld]
 refine iy (hgr _) fun z hz'=>?_
 obtain ⟨y,-,cz,rfl,hz'⟩:=hz'
 obtain ⟨_,_,rfl,ha',hb'⟩:=eP.1 hz'
 obtain ⟨g1,rfl,q1⟩:=aK.1 ha'
 obtain ⟨g2,rfl,q2⟩:=aK.1 hb'
 simp only[sz,simprocAttr]
 refine Cj (A:=.agg [g1,g2]) (x:=u) (y:=v) (zs:=zs) (kk:=kk) (by decide) hz hk (fun j hj=>?_) (by simp[St,sx]) (by simp[sx]) ?_
 ·match j,hj with
  | 0,_=>exact ⟨g1,y.1,q1,rfl⟩
  | 1,_=>exact ⟨g2,y.2,q2,rfl⟩
 intro t g'
 simp only[sz,simprocAttr,dD]
end
end Hx
end
section
namespace Hx
open Go Go.RowKit Go.ChangeShapes Go.WideShapes
def l6 (P:Program):List Field->Nat->Option Nat
 | [],k=>some k
 | f::fs,k=>if f.offset=k then l6 P fs (k+P.cellsOf f.type) else none
def lR (P:Program):Nat->TypeId->Bool
 | 0,_=>false
 | n+1,t=>match P.underlying t with
  | some .bool=>true
  | some (.int _)=>true
  | some (.slice e)=>decide (0<P.cellsOf e)&&lR P n e
  | some (.struct fs)=>(l6 P fs.toList 0 == some (P.cellsOf t))&&fs.toList.all (fun f=>lR P n f.type)
  | some (.array m e)=>decide (m*P.cellsOf e=P.cellsOf t)&&lR P n e
  | _=>false
def Sh (P:Program):Nat->TypeId->List AV->Prop
 | 0,_,_=>False
 | n+1,t,xs=>match P.underlying t with
  | some .bool=>∃b,xs=[.bool b]
  | some (.int k)=>∃z,xs=[.int k z]/\(Lit.int k z).wf=true
  | some (.slice e)=>xs=[.nils]\/∃rows,xs=[.tsl 0 (P.cellsOf e) rows]/\rows.length<9223372036854775808/\∀row∈rows,Sh P n e row
  | some (.struct fs)=>∃xss,xs=xss.flatten/\All2 (fun (f:Field) ys=>Sh P n f.type ys) fs.toList xss
  | some (.array m e)=>∃xss:List (List AV),xs=xss.flatten/\xss.length=m/\∀ys∈xss,Sh P n e ys
  | _=>False
def s7 (P:Program)(w:World)(n:Nat)(t:TypeId)(xs:List AV)(cs:List Value):Prop :=
 RVs0 w xs cs/\(∀y∈xs,y.one=true/\Closed y)/\Sh P n t xs
theorem RVs0.append {w:World}{xs ys:List AV}{cs ds:List Value}(h:RVs0 w xs cs)(h':RVs0 w ys ds):RVs0 w (xs++ys) (cs++ds):=by
 refine ⟨by rw[List.length_append,List.length_append,h.1,h'.1],fun i x v hx hv=>?_⟩
 rcases Nat.lt_or_ge i xs.length with hi | hi
 ·rw[List.getElem?_append_left hi] at hx
  rw[List.getElem?_append_left (by rw[<-h.1];exact hi)] at hv
  exact h.2 i x v hx hv
 ·rw[List.getElem?_append_right hi] at hx
  rw[List.getElem?_append_right (by rw[<-h.1];exact hi),<-h.1] at hv
  exact h'.2 _ x v hx hv
theorem we (b o n:Nat):(⟨b,o,none⟩:Addr).add n=adr b (o+n):=by
 unfold Addr.add
 split
 ·rename_i h;subst h;rfl
 ·rfl
variable {H:Type}{enc:TypeId×Value->H}{P:Program}{w:World}
theorem qL:∀{fl:List Field} {k K:Nat},l6 P fl k=some K->k<=K
 | [],k,K,h=>by injection h with h;omega
 | f::fl,k,K,h=>by
  unfold l6 at h
  split at h
  ·have:=qL h;omega
  ·cases h
theorem AC {n:Nat}{cs:List Value}:∀{fl:List Field} {k K:Nat},l6 P fl k=some K ->
  (∀f∈fl,∃xs,s7 P w n f.type xs ((cs.drop f.offset).take (P.cellsOf f.type))) ->
  ∃xss,All2 (fun (f:Field) ys=>Sh P n f.type ys) fl xss/\RVs0 w xss.flatten ((cs.drop k).take (K - k))/\∀y∈xss.flatten,y.one=true/\Closed y
 | [],k,K,h,_=>by
  injection h with h;subst h
  exact ⟨[],trivial,by rw[Nat.sub_self,List.take_zero];exact ⟨rfl,fun i x v hx=>by simp at hx⟩,fun y hy=>by simp at hy⟩
 | f::fl,k,K,h,hg=>by
  unfold l6 at h
  split at h
  ·rename_i ho
   subst ho
   obtain ⟨xs,h1,h2,h3⟩:=hg f (by simp)
   obtain ⟨xss,a1,a2,a3⟩:=AC h fun f' hf'=>hg f' (by simp[hf'])
   have hle:=qL h
   refine ⟨xs::xss,⟨h3,a1⟩,?_,fun y hy=>?_⟩
   ·have e:(cs.drop f.offset).take (K - f.offset)=(cs.drop f.offset).take (P.cellsOf f.type)++(cs.drop (f.offset+P.cellsOf f.type)).take (K - (f.offset+P.cellsOf f.type)):=by
     rw[show K - f.offset=P.cellsOf f.type+(K - (f.offset+P.cellsOf f.type)) by omega,List.take_add,List.drop_drop]
    rw[e,List.flatten_cons]
    exact h1.append a2
   ·rw[List.flatten_cons,List.mem_append] at hy
    rcases hy with hy | hy
    ·exact h2 y hy
    ·exact a3 y hy
  ·cases h
theorem w8 {n:Nat}{e:TypeId}{cs:List Value}:∀{m k:Nat},
  (∀i,i<m->∃xs,s7 P w n e xs ((cs.drop ((k+i)*P.cellsOf e)).take (P.cellsOf e))) ->
  ∃xss:List (List AV),xss.length=m/\(∀ys∈xss,Sh P n e ys)/\RVs0 w xss.flatten ((cs.drop (k*P.cellsOf e)).take (m*P.cellsOf e))/\∀y∈xss.flatten,y.one=true/\Closed y
 | 0,k,_=>⟨[],rfl,fun y hy=>by simp at hy,by rw[Nat.zero_mul,List.take_zero];exact ⟨rfl,fun i x v hx=>by simp at hx⟩,fun y hy=>by simp at hy⟩
 | m+1,k,hg=>by
  obtain ⟨xs,h1,h2,h3⟩:=hg 0 (by omega)
  rw[Nat.add_zero] at h1
  obtain ⟨xss,a0,a1,a2,a3⟩:=w8 (m:=m) (k:=k+1) fun i hi=>by
   have:=hg (i+1) (by omega)
   rwa [show k+(i+1)=k+1+i by omega] at this
  refine ⟨xs::xss,by simp[a0],fun ys hy=>?_,?_,fun y hy=>?_⟩
  ·rcases List.mem_cons.1 hy with rfl | hy
   ·exact h3
   ·exact a1 ys hy
  ·have e:(cs.drop (k*P.cellsOf e)).take ((m+1)*P.cellsOf e)=(cs.drop (k*P.cellsOf e)).take (P.cellsOf e)++(cs.drop ((k+1)*P.cellsOf e)).take (m*P.cellsOf e):=by
    rw[show (m+1)*P.cellsOf e=P.cellsOf e+m*P.cellsOf e by rw[Nat.add_mul];omega,List.take_add,List.drop_drop,Nat.add_mul,Nat.one_mul]
   rw[e,List.flatten_cons]
   exact h1.append a2
  ·rw[List.flatten_cons,List.mem_append] at hy
   rcases hy with hy | hy
   ·exact h2 y hy
   ·exact a3 y hy
theorem uD:∀(n:Nat) (t:TypeId),lR P n t=true->∀(fuel:Nat) (cs:List Value) (x:DataW H×List MemPlace),DataW.trod enc P w 0 (fun _=>true) true fuel t cs=some x->∃xs,s7 P w n t xs cs:=by
 intro n
 induction n with
 | zero=>intro t h;simp[lR] at h
 | succ n ih =>
  intro t h fuel cs x hx
  unfold lR at h
  split at h
  ·rename_i hu
   obtain ⟨b,rfl,-⟩:=DataW.trod_bool hu hx
   refine ⟨[.bool b],⟨rfl,fun i x v h1 h2=>?_⟩,fun y hy=>?_,?_⟩
   ·cases i with
    | zero=>simp at h1 h2;subst h1;subst h2;exact .bool _ _
    | succ i=>simp at h1
   ·simp at hy;subst hy;exact ⟨rfl,.bool _⟩
   ·unfold Sh;rw[hu];exact ⟨b,rfl⟩
  ·rename_i k hu
   obtain ⟨z,rfl,-,hwf⟩:=DataW.trod_int hu hx
   refine ⟨[.int k z],⟨rfl,fun i x v h1 h2=>?_⟩,fun y hy=>?_,?_⟩
   ·cases i with
    | zero=>simp at h1 h2;subst h1;subst h2;exact .int _ _ _
    | succ i=>simp at h1
   ·simp at hy;subst hy;exact ⟨rfl,.int _ _⟩
   ·unfold Sh;rw[hu];exact ⟨z,rfl,hwf⟩
  ·rename_i e hu
   rw[Bool.and_eq_true,decide_eq_true_eq] at h
   obtain ⟨hpos,hp⟩:=h
   rcases DataW.trod_slice hu hx with ⟨rfl,-⟩ | ⟨a,len,cap,elems,rest,m,-,rfl,-,-,hlc,hcm,hlen,hel,-,-⟩
   ·refine ⟨[.nils],⟨rfl,fun i x v h1 h2=>?_⟩,fun y hy=>?_,?_⟩
    ·cases i with
     | zero=>simp at h1 h2;subst h1;subst h2;exact .nils _
     | succ i=>simp at h1
    ·simp at hy;subst hy;exact ⟨rfl,.nils⟩
    ·unfold Sh;rw[hu];exact .inl rfl
   ·have each:∀i,i<len->∃xs vs,w.cells? 0 (a.add (i*P.cellsOf e)) (P.cellsOf e)=some vs/\s7 P w n e xs vs:=by
     intro i hi
     have:=hel i hi
     rw[List.getElem?_eq_getElem (show i<elems.length by omega),Option.bind_eq_some_iff] at this
     obtain ⟨vs,h1,h2⟩:=this
     obtain ⟨xs,hg⟩:=ih e hp _ _ _ h2
     exact ⟨xs,vs,h1,hg⟩
    let rowf:Nat->List AV:=fun i=>if hi:i<len then Classical.choose (each i hi) else []
    let valf:Nat->List Value:=fun i=>if hi:i<len then Classical.choose (Classical.choose_spec (each i hi)) else []
    have hrow:∀i,i<len->w.cells? 0 (a.add (i*P.cellsOf e)) (P.cellsOf e)=some (valf i)/\s7 P w n e (rowf i) (valf i):=by
     intro i hi
     have:=Classical.choose_spec (Classical.choose_spec (each i hi))
     simpa only[rowf,valf,dif_pos hi] using this
    have hget:∀(i:Nat) (row:List AV),((List.range len).map rowf)[i]?=some row->i<len/\row=rowf i:=by
     intro i row h1
     rw[List.getElem?_map] at h1
     rcases Nat.lt_or_ge i len with hi | hi
     ·rw[List.getElem?_range hi] at h1
      injection h1 with h1
      exact ⟨hi,h1.symm⟩
     ·rw[List.getElem?_eq_none (by simpa using hi)] at h1;cases h1
    refine ⟨[.tsl 0 (P.cellsOf e) ((List.range len).map rowf)],⟨rfl,fun i x v h1 h2=>?_⟩,fun y hy=>?_,?_⟩
    ·cases i with
     | succ i=>simp at h1
     | zero =>
      simp at h1 h2;subst h1;subst h2
      rcases Nat.eq_zero_or_pos len with h0 | h0
      ·subst h0
       exact .tnil 0 0 _ a cap (Nat.le_refl _)
      ·obtain ⟨b,o,spot⟩:=a
       have hc0:=World.cells?_some (hrow 0 h0).1
       have hv0:(valf 0)[0]?=some (valf 0)[0]:=List.getElem?_eq_getElem (by rw[hc0.2.1];exact hpos)
       have h00:=hc0.2.2 0 hpos
       rw[hv0] at h00
       have hspot:spot=none:=by simpa [Addr.add] using World.cell?_spot h00
       subst hspot
       have cellat:∀i j row x,((List.range len).map rowf)[i]?=some row->row[j]?=some x->∃v,(valf i)[j]?=some v/\w.cell? (adr b (o+i*P.cellsOf e+j))=some v/\RV w gm0 av0 0 x v:=by
        intro i j row x hr hxj
        obtain ⟨hi,rfl⟩:=hget i row hr
        obtain ⟨q1,q2⟩:=hrow i hi
        have hj:j<(rowf i).length:=(List.getElem?_eq_some_iff.1 hxj).1
        have hj':j<(valf i).length:=by rw[<-q2.1.1];exact hj
        have hcs:=World.cells?_some q1
        have hcell:=hcs.2.2 j (by rw[<-hcs.2.1];exact hj')
        rw[List.getElem?_eq_getElem hj'] at hcell
        refine ⟨_,List.getElem?_eq_getElem hj',?_,q2.1.2 j x _ hxj (List.getElem?_eq_getElem hj')⟩
        rw[we,show adr b (o+i*P.cellsOf e)=(⟨b,o+i*P.cellsOf e,none⟩:Addr) from rfl,we] at hcell
        exact hcell
       have hb:b<w.heap.size:=by
        have:=pF h00
        simpa [Addr.add] using this
       have hrl:((List.range len).map rowf).length=len:=by simp
       have key:=RV.tsl (w:=w) (γ:=gm0) (A:=av0) 0 0 (P.cellsOf e) ((List.range len).map rowf) b o cap (fun i j=>(valf i)[j]?.getD undef) (Nat.le_refl _) (by rw[hrl];exact hlc) hb (Dr b) (fun h=>h)
        (fun i row hr=>by
         obtain ⟨hi,rfl⟩:=hget i row hr
         obtain ⟨q1,q2⟩:=hrow i hi
         rw[q2.1.1,(World.cells?_some q1).2.1])
        (fun i j row x hr hxj=>by
         obtain ⟨hi,rfl⟩:=hget i row hr
         exact ((hrow i hi).2.2.1 x (List.mem_of_getElem? hxj)).1)
        (fun i j row x hr hxj=>by
         obtain ⟨v,v1,v2,v3⟩:=cellat i j row x hr hxj
         rw[v2,v1];rfl)
        (fun i j row x hr hxj=>by
         obtain ⟨v,v1,v2,v3⟩:=cellat i j row x hr hxj
         rw[v1];exact v3)
        (fun row hr x hx=>by
         obtain ⟨i,hi⟩:=List.getElem?_of_mem hr
         obtain ⟨hi2,rfl⟩:=hget i row hi
         exact ((hrow i hi2).2.2.1 x hx).2)
       rw[hrl] at key
       exact key
    ·simp only[List.mem_singleton] at hy;subst hy
     refine ⟨rfl,.tsl _ _ _ fun row hr x hx=>?_⟩
     obtain ⟨i,hi⟩:=List.getElem?_of_mem hr
     obtain ⟨hi2,rfl⟩:=hget i row hi
     exact ((hrow i hi2).2.2.1 x hx).2
    ·unfold Sh;rw[hu]
     refine .inr ⟨_,rfl,?_,fun row hr=>?_⟩
     ·rw[List.length_map,List.length_range]
      have:maxLen<9223372036854775808:=by decide
      omega
     ·obtain ⟨i,hi⟩:=List.getElem?_of_mem hr
      obtain ⟨hi2,rfl⟩:=hget i row hi
      exact (hrow i hi2).2.2.2
  ·rename_i fs hu
   rw[Bool.and_eq_true] at h
   obtain ⟨hc,hp⟩:=h
   have hc:l6 P fs.toList 0=some (P.cellsOf t):=eq_of_beq hc
   obtain ⟨ys,m,-,-,hl,hyl,hel⟩:=DataW.trod_struct hu hx
   obtain ⟨xss,a1,a2,a3⟩:=AC (w:=w) (n:=n) (cs:=cs) hc fun f hf=>by
    obtain ⟨i,hi,e⟩:=List.mem_iff_getElem.1 hf
    have hfi:fs[i]?=some f:=by rw[<-Array.getElem?_toList,List.getElem?_eq_getElem hi,e]
    have:=hel i f hfi
    rw[List.getElem?_eq_getElem (show i<ys.length by rw[hyl];simpa using hi)] at this
    exact ih f.type (List.all_eq_true.1 hp f hf) _ _ _ this
   rw[List.drop_zero,Nat.sub_zero,<-hl,List.take_length] at a2
   refine ⟨xss.flatten,a2,a3,?_⟩
   unfold Sh;rw[hu];exact ⟨xss,rfl,a1⟩
  ·rename_i m e hu
   rw[Bool.and_eq_true,decide_eq_true_eq] at h
   obtain ⟨hc,hp⟩:=h
   obtain ⟨ys,q,-,-,hl,hyl,hel⟩:=DataW.trod_array hu hx
   obtain ⟨xss,a0,a1,a2,a3⟩:=w8 (w:=w) (n:=n) (e:=e) (cs:=cs) (m:=m) (k:=0) fun i hi=>by
    have:=hel i hi
    rw[List.getElem?_eq_getElem (show i<ys.length by omega)] at this
    rw[Nat.zero_add]
    exact ih e hp _ _ _ this
   rw[Nat.zero_mul,List.drop_zero,hc,<-hl,List.take_length] at a2
   refine ⟨xss.flatten,a2,a3,?_⟩
   unfold Sh;rw[hu];exact ⟨xss,rfl,a0,a1⟩
  ·cases h
theorem C5 {n:Nat}{t:TypeId}{xs:List AV}(hu:P.underlying t=some (.int .u8))(h:Sh P n t xs):∃x:UInt8,Rp.rp NoP 0 .nil x xs:=by
 cases n with
 | zero=>exact h.elim
 | succ n =>
  unfold Sh at h;rw[hu] at h
  obtain ⟨z,rfl,hw⟩:=h
  simp only[Lit.wf,IntKind.min,IntKind.max,IntKind.signed,IntKind.bits,Bool.and_eq_true] at hw
  refine ⟨UInt8.ofNat z.toNat,A1.2 ?_⟩
  have h1:0<=z:=by simpa using hw.1
  have h2:z<=255:=by simpa using hw.2
  have h3:(UInt8.ofNat z.toNat).toNat=z.toNat:=UInt8.toNat_ofNat_of_lt' (by show z.toNat<256;omega)
  rw[h3,Int.toNat_of_nonneg h1]
theorem sI {α:Type} [Rp α]{n:Nat}{t e:TypeId}{xs:List AV}(hu:P.underlying t=some (.slice e))(hsz:P.cellsOf e=Rp.sz α)(hel:∀ys,Sh P n e ys->∃y:α,Rp.rp NoP 0 .nil y ys)(h:Sh P (n+1) t xs) :
  ∃l:List α,Rp.rp NoP 0 .nil l xs:=by
 unfold Sh at h;rw[hu] at h
 rcases h with rfl | ⟨rows,rfl,hl,hr⟩
 ·exact ⟨[],.nils,rfl,by simp,rfl⟩
 ·have:∀rows:List (List AV),(∀row∈rows,Sh P n e row)->∃l:List α,All2 (Rp.rp NoP 0 .nil) l rows:=by
   intro rows
   induction rows with
   | nil=>intro _;exact ⟨[],trivial⟩
   | cons r rows ih =>
    intro h
    obtain ⟨y,hy⟩:=hel r (h r (by simp))
    obtain ⟨l,hl⟩:=ih fun row hrow=>h row (by simp[hrow])
    exact ⟨y::l,hy,hl⟩
  obtain ⟨l,ha⟩:=this rows hr
  exact ⟨l,_,rfl,by rw[ha.len];exact hl,Nat.le_refl _,.inl hsz,ha⟩
theorem yH {n:Nat}{t:TypeId}{fs:Array Field}{xs:List AV}(hu:P.underlying t=some (.struct fs))(h:Sh P (n+1) t xs):∃xss,xs=xss.flatten/\All2 (fun (f:Field) ys=>Sh P n f.type ys) fs.toList xss:=by
 unfold Sh at h;rw[hu] at h;exact h
end Hx
end
