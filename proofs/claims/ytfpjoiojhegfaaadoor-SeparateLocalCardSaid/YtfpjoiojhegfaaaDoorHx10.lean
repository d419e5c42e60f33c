/- A part of the proof: an interpreter over abstract values, shown right against the model, and what the functions of the chapter compute on it. -/
import Derived.OpenShut
import Derived.DataReads
import Derived.Test.YtfpjoiojhegfaaaDoorHx9
set_option linter.unusedVariables false
set_option linter.unusedSimpArgs false
set_option linter.unnecessarySimpa false
section
namespace Hx
open Go
noncomputable section
abbrev tA:=List UInt8×List UInt8
def Cm:VS:=fun P k h v=>∃p:List Nat,(GOk p/\p.length<=6)/\One p P k h v
def LGp (n:Nat)(u v:AV):List (Nat×AV):=[(1,.hptr 0 0 0 0),(3,.int .i64 (n:Int)),(4,u),(8,v)]
structure GD (a b u v:AV) (n:Nat) (num:Nat->Nat) (pl:List Int) (Y:List Nat) (g:G):Prop where
 h0:g.h.get 0=.cells 2 [[a,b]] 0 false false
 nu:Own g 1 u 1 (pl.map ci)
 ou:Own g 1 v 1 (Y.map cu)
 ne:∀i,vid u=some i->vid v≠some i
 ni:NumI n num Y
section
variable {d n:Nat}{a b u v:AV}{num:Nat->Nat}{pl:List Int}
theorem vR {Q:QT}{t:T}{g:G}{Y:List Nat}{i:Nat}{ps:List UInt8}{rows:List (List AV)}(n6:n<=6)(hN:Num n pl num)(hi:i<n)(hip:i<ps.length)(ra:∀h,aw h 1 a=some rows)(rl:rows.length=ps.length)(rg:∀(k:Nat) (x:UInt8),ps[k]?=some x->rows[k]?=some [.int .u8 (x.toNat:Int)])
  (hD:GD a b u v n num pl Y g) (ht:St t ((9,.int .i64 (i:Int))::LGp n u v)) (h10:tat t 10=.int .i64 0) (h11:tat t 11=.int .i64 0)
  (fin:∀t g' Y',St t ((9,.int .i64 (i:Int))::LGp n u v)->GD a b u v n num pl Y' g'->g.nx<=g'.nx->Q (.exit 4) t [] g'):wpL (wp C0 d none cC) Q t [] g:=by
 simp only[cC,er]
 refine pR i (by omega) (fun k t df g'=>df=[]/\g.nx<=g'.nx/\St t ((9,.int .i64 (i:Int))::LGp n u v)/\(∃c:Int,0<=c/\c<=3/\tat t 10=.int .i64 c)/\∃Y',GD a b u v n num pl Y' g')
  ⟨rfl,Nat.le_refl _,ht,⟨0,by omega,by omega,h10⟩,Y,hD⟩ h11 (by decide)
  (by rintro k t df g v s (rfl | rfl | rfl) ⟨a1,a0,⟨b1,b2,b3,b4,b5,-⟩,⟨c,c1,c2,c3⟩,a2⟩<;>exact ⟨a1,a0,by simp[St,LGp,sx,b1,b2,b3,b4,b5],⟨c,c1,c2,by simp[sx,c3]⟩,a2⟩) ?_ ?_ ?_
 ·rintro k t df g' hk ⟨rfl,hn,⟨h9,h1,h3,h4,h8,-⟩,⟨c,c1,c2,h10⟩,Y',hD⟩ h11
  simp only[sz,simprocAttr,h9,h11]
  exact ⟨hn,by simp[St,LGp,sx,h1,h3,h4,h8,h9],⟨c,c1,c2,h10⟩,Y',hD⟩
 ·rintro k t df g1 hk ⟨rfl,hn,⟨h9,h1,h3,h4,h8,-⟩,⟨c,c1,c2,h10⟩,Y',hD⟩ h11
  obtain ⟨x,hx⟩:∃x,ps[i]?=some x:=⟨_,List.getElem?_eq_getElem hip⟩
  have hx8:x.toNat<256:=x.toNat_lt
  have hrx:=rg i x hx
  have hlt:i<rows.length:=by omega
  obtain ⟨z1,s1⟩:=wY x.toNat k
  obtain ⟨z2,s2⟩:=wW z1 1
  have s2:aT .and (.int .u8 (z1:Int)) (.int .u8 1)=.val (.int .u8 z2):=s2
  have wk:IntKind.wrap .u64 (k:Int)=(k:Int):=eD (by omega) (by omega)
  have lg1:aC (.cells 2 [[a,b]] 0 false false) 0 0 false 1 0=.val a:=rfl
  have ry:nY a=true:=pZ (ra .nil) hlt
  by_cases e1:z2=1
  ·by_cases e2:c<3
   ·subst e1
    have hpl:=hN.at_ i hi
    have hpk:=hN.at_ k (by omega)
    have hnl:=hN.lt i hi
    have hkl:=hN.lt k (by omega)
    have q1:(pl.map ci)[i]?=some (ci (num i:Int)):=by rw[List.getElem?_map,hpl];rfl
    have q2:(pl.map ci)[k]?=some (ci (num k:Int)):=by rw[List.getElem?_map,hpk];rfl
    have z1:i<(pl.map ci).length:=by rw[List.length_map,hN.len];exact hi
    have z2:k<(pl.map ci).length:=by rw[List.length_map,hN.len];omega
    have rn:=hD.nu.rows
    have ro:=hD.ou.rows
    obtain ⟨y,hy⟩:∃y,Y'[num i]?=some y:=⟨_,List.getElem?_eq_getElem (by rw[hD.ni.l];exact hnl)⟩
    have q3:(Y'.map cu)[num i]?=some (cu y):=by rw[List.getElem?_map,hy];rfl
    have z3:num i<(Y'.map cu).length:=by rw[List.length_map,hD.ni.l];exact hnl
    have hG:=yU hN (by omega) (by omega) hD.ni
    have hyl:y<18446744073709551616:=by
     have:=hG.hp y (List.mem_of_getElem? hy)
     have:=iZ hG.l8
     omega
    have hsh:aT .shl (.int .u64 1) (.int .u64 (num k:Int))=.val (.int .u64 ((2 ^ num k:Nat):Int)):=by rw[aK,cm (by omega)]
    have h2k:(2:Nat) ^ num k<=2 ^ 6:=Nat.pow_le_pow_right (by decide) (by omega)
    have wn:IntKind.wrap .u64 (num k:Int)=(num k:Int):=eD (by omega) (by omega)
    have wc:IntKind.wrap .i64 (c+1)=c+1:=iH (by omega) (by omega)
    have hni:=zt hN hD.ni hi hk hy
    simp only[sz,simprocAttr,sf,h1,h4,h8,h9,h10,h11,hD.h0,lg1,ra,hlt,hrx,ry,wk,s1,s2,e2,rn,ro,q1,q2,q3,z1,z2,z3,ci,cu,wn,hsh,g7 y _ hyl (show (2:Nat) ^ num k<18446744073709551616 by omega)]
    refine pB (v:=v) (sz:=1) (n:=1) (i:=num i) (off:=0) (x:=.int .u64 ((y ||| 2 ^ num k:Nat):Int)) (row':=cu (y ||| 2 ^ num k)) (hD.ou.fr (by simp;omega) fun i _=>by simp) q3 rfl rfl rfl fun g4 hu4 n4 f4=>?_
    rw[show ((Y'.map cu).set (num i) (cu (y ||| 2 ^ num k)))=(Y'.set (num i) (y ||| 2 ^ num k)).map cu from by rw[<-List.map_set]] at hu4
    have f4':∀i,vid v≠some i->g4.h.get i=g1.h.get i:=fun i hi=>by rw[f4 i hi];simp
    have n4':g1.nx<=g4.nx:=by rw[n4];simp;omega
    simp only[sz,simprocAttr,h10,wc]
    refine ⟨?_,?_⟩
    ·simp only[List.reverse_cons,List.reverse_nil,List.nil_append,List.cons_append]
     exact bU [false,false,false,false,false,false,false,false,false,false,false,false,false,false,false,false,false,false,false,false,true] [] (by simp[All2,ah,aF]) (by decide) (by simp)
    refine ⟨⟨by omega,by simp[St,LGp,sx,h1,h3,h4,h8,h9],⟨c+1,by omega,by omega,rfl⟩,_,⟨?_,?_,?_,hD.ne,hni⟩⟩,h11⟩
    ·simp only[bumpG_h]
     rw[f4' 0 fun e=>by have:=(hD.ou.lt e).1;omega,hD.h0]
    ·exact hD.nu.fr (by simp;omega) fun i hi=>by simp only[bumpG_h];exact f4' i (hD.ne i hi)
    ·exact hu4.fr (by simp) fun i _=>by simp
   ·simp only[sz,simprocAttr,h1,h8,h9,h10,h11,hD.h0,lg1,ra,hlt,hrx,ry,wk,s1,s2,e1,e2]
    exact ⟨hn,by simp[St,LGp,sx,h1,h3,h4,h8,h9],⟨c,c1,c2,rfl⟩,Y',hD⟩
  ·simp only[sz,simprocAttr,h1,h8,h9,h11,hD.h0,lg1,ra,hlt,hrx,ry,wk,s1,s2,e1]
   exact ⟨hn,by simp[St,LGp,sx,h1,h3,h4,h8,h9],⟨c,c1,c2,h10⟩,Y',hD⟩
 ·rintro t df g' ⟨rfl,hn,ht,-,Y',hD⟩
  exact fin t g' Y' ht hD hn
theorem wz {Q:QT}{t:T}{g:G}{Y:List Nat}{ps:List UInt8}{rows:List (List AV)}(n6:n<=6)(hN:Num n pl num)(al:∀g,ib .slice a g=.val (.int .i64 (ps.length:Int)))(ra:∀h,aw h 1 a=some rows)(rl:rows.length=ps.length)(rg:∀(k:Nat) (x:UInt8),ps[k]?=some x->rows[k]?=some [.int .u8 (x.toNat:Int)])
  (hD:GD a b u v n num pl Y g) (ht:St t (LGp n u v)) (h9:tat t 9=.int .i64 0)
  (fin:∀t g' Y',St t (LGp n u v)->GD a b u v n num pl Y' g'->Q (.exit 2) t [] g'):wpL (wp C0 d none cy) Q t [] g:=by
 simp only[cy,eB]
 have lg1:aC (.cells 2 [[a,b]] 0 false false) 0 0 false 1 0=.val a:=rfl
 refine pR (min n ps.length) (by omega) (fun i t df g'=>df=[]/\St t (LGp n u v)/\∃Y',GD a b u v n num pl Y' g')
  ⟨rfl,ht,Y,hD⟩ h9 (by decide)
  (by rintro k t df g v s (rfl | rfl | rfl) ⟨a1,⟨b1,b2,b3,b4,-⟩,a2⟩<;>exact ⟨a1,by simp[St,LGp,sx,b1,b2,b3,b4],a2⟩) ?_ ?_ ?_
 ·rintro i t df g' hk ⟨rfl,⟨h1,h3,h4,h8,-⟩,Y',hD⟩ h9
  by_cases c1:i<n
  ·simp only[sz,simprocAttr,h1,h3,h9,hD.h0,lg1,al,show (i:Int)<(n:Int) from by omega]
   refine ⟨?_,by simp[St,LGp,sx,h1,h3,h4,h8],Y',hD⟩
   congr 1
   exact decide_eq_decide.2 (by omega)
  ·simp only[sz,simprocAttr,h3,h9,show ¬(i:Int)<(n:Int) from by omega]
   refine ⟨?_,by simp[St,LGp,sx,h1,h3,h4,h8],Y',hD⟩
   congr 1
   exact (decide_eq_false (by omega)).symm
 ·rintro i t df g1 hk ⟨rfl,⟨h1,h3,h4,h8,-⟩,Y',hD⟩ h9
  simp only[sz,simprocAttr]
  refine vR (i:=i) (ps:=ps) n6 hN (by omega) (by omega) ra rl rg hD (by simp[St,LGp,sx,h1,h3,h4,h8,h9]) (by simp[sx]) (by simp[sx]) ?_
  rintro t g' Y' ⟨h9,ht⟩ hD hn
  simp only[sz,simprocAttr]
  exact ⟨⟨ht,Y',hD⟩,h9⟩
 ·rintro t df g' ⟨rfl,ht,Y',hD⟩
  exact fin t g' Y' ht hD
theorem vP {Q:QT}{t:T}{g:G}{os:List UInt8}{rows:List (List AV)}(n6:n<=6)(bl:∀g,ib .slice b g=.val (.int .i64 (os.length:Int)))(rb:∀h,aw h 1 b=some rows)(rl:rows.length=os.length)(rg:∀(k:Nat) (x:UInt8),os[k]?=some x->rows[k]?=some [.int .u8 (x.toNat:Int)])
  (h0:g.h.get 0=.cells 2 [[a,b]] 0 false false) (hn1:1<=g.nx) (ht:St t [(1,.hptr 0 0 0 0),(3,.int .i64 (n:Int)),(4,.nils)]) (h5:tat t 5=.int .i64 0)
  (fin:∀t g' u,St t [(1,.hptr 0 0 0 0),(3,.int .i64 (n:Int)),(4,u)]->g'.h.get 0=.cells 2 [[a,b]] 0 false false->1<=g'.nx->Own g' 1 u 1 ((S.ap os n).map ci)->Q (.exit 0) t [] g'):wpL (wp C0 d none cz) Q t [] g:=by
 simp only[cz,ez]
 have lg2:aC (.cells 2 [[a,b]] 0 false false) 0 0 false 1 1=.val b:=rfl
 refine pR n (by omega) (fun j t df g=>df=[]/\g.h.get 0=.cells 2 [[a,b]] 0 false false/\1<=g.nx/\∃u,St t [(1,.hptr 0 0 0 0),(3,.int .i64 (n:Int)),(4,u)]/\Own g 1 u 1 ((S.ap os j).map ci))
  ⟨rfl,h0,hn1,.nils,ht,.inl ⟨rfl,rfl⟩⟩ h5 (by decide)
  (by rintro k t df g v s (rfl | rfl | rfl) ⟨a1,a2,a3,u,⟨b1,b2,b3,-⟩,a4⟩<;>exact ⟨a1,a2,a3,u,by simp[St,sx,b1,b2,b3],a4⟩) ?_ ?_ ?_
 ·rintro j t df g hj ⟨rfl,hg,hnx,u,⟨h1,h3,h4,-⟩,hu⟩ h5
  simp only[sz,simprocAttr,h3,h5]
  exact ⟨hg,hnx,u,by simp[St,sx,h1,h3,h4],hu⟩
 ·rintro j t df g hj ⟨rfl,hg,hnx,u,⟨h1,h3,h4,-⟩,hu⟩ h5
  have hpl:((S.ap os j).map ci).length=j:=by rw[List.length_map,jp]
  have hle:S.aI os j<=j:=by
   unfold S.aI;split
   ·have:=Nat.mod_lt ((os[j]?.map UInt8.toNat).getD 0) (show 0<j+1 by omega);omega
   ·omega
  have key:∀(t:T) (Q:QT),St t [(1,.hptr 0 0 0 0),(3,.int .i64 (n:Int)),(4,u)]->tat t 5=.int .i64 (j:Int)->tat t 6=.int .i64 (S.aI os j:Int) ->
    (∀(t':T) (g':G),(∃u,St t' [(1,.hptr 0 0 0 0),(3,.int .i64 (n:Int)),(4,u)]/\Own g' 1 u 1 ((S.ap os (j+1)).map ci))->tat t' 5=.int .i64 (j:Int)->g'.h.get 0=.cells 2 [[a,b]] 0 false false->1<=g'.nx->Q .norm t' [] g') ->
    wp C0 d none cD Q t [] g:=by
   rintro t Q ⟨h1,h3,h4,-⟩ h5 h6 kk
   obtain ⟨y1,s1,w1⟩:=sV hu (n:=S.aI os j) (by omega)
   simp only[sz,simprocAttr,cD,h4,h6,List.head?_nil,List.head?_cons,s1]
   refine kp (rows:=[]) (b:=1) (.inl ⟨rfl,rfl⟩) w1 hnx (by simp[fe];omega) fun v1 g1 hv1 n1 f1 vid1 _=>?_
   simp only[sz,simprocAttr,h5]
   refine kp (new:=[ci (j:Int)]) (hv1.step (Fr.new _ _)) (by simp[sx,sy,ci]) (by simp) (by simp[fe,jp];omega) fun v2 g2 hv2 n2 f2 vid2 _=>?_
   have hu1:Own g1 1 u 1 ((S.ap os j).map ci):=hu.fr n1 fun i hi=>f1 i (hu.lt hi).2 (by simp[vid])
   have hnv:∀i,i<g.nx->vid v1≠some i:=fun i hi e=>by
    rcases vid1 with h | ⟨i',h,hi'⟩
    ·rw[h] at e;cases e
    ·rw[h] at e;injection e with e;omega
   have hu2:Own g2 1 u 1 ((S.ap os j).map ci):=hu1.fr (by simp at n2;omega) fun i hi=>by
    have hlt:=(hu.lt hi).2
    rw[f2 i (by simp;omega) (hnv i hlt),G.new_h,cU _ _ _ (by omega)]
   obtain ⟨y2,s2,w2⟩:=tk hu2 (n:=S.aI os j) (by omega)
   simp only[sz,simprocAttr,h4,h6,List.head?_nil,List.head?_cons,s2]
   refine kp hv2 w2 (by simp at n2;omega) (by simp[fe,jp];omega) fun v3 g3 hv3 n3 f3 _ _=>?_
   simp only[sz,simprocAttr]
   refine kk _ _ ⟨v3,by simp[St,sx,h1,h3],?_⟩ (by simp[sx,h5]) ?_ (by simp at n2;omega)
   ·simpa [S.ap,List.map_take,List.map_drop] using hv3
   ·rw[f3 0 (by simp at n2;omega) (fun e=>by have:=(hv2.lt e).1;omega),f2 0 (by simp) (hnv 0 (by omega)),G.new_h,cU _ _ _ (by omega),f1 0 (by omega) (by simp[vid]),hg]
  by_cases hb:j<os.length
  ·obtain ⟨y,hy⟩:∃y,os[j]?=some y:=⟨_,List.getElem?_eq_getElem hb⟩
   have z1:=rg j y hy
   have hy8:y.toNat<256:=y.toNat_lt
   have hlt:j<rows.length:=by omega
   have ry:nY b=true:=pZ (rb .nil) hlt
   have hat:((S.aI os j:Nat):Int)=(y.toNat:Int) % ((j:Int)+1):=by
    unfold S.aI;rw[if_pos hb,hy];simp
   simp only[sz,simprocAttr,h1,h5,hg,lg2,bl,show (j:Int)<(os.length:Int) from by omega,rb,hlt,z1,ry,iH (show -9223372036854775808<=(y.toNat:Int) by omega) (show (y.toNat:Int)<9223372036854775808 by omega),iH (show -9223372036854775808<=(j:Int)+1 by omega) (show (j:Int)+1<9223372036854775808 by omega),qj .i64 (show (0:Int)<=(y.toNat:Int) by omega) (show 0<(j:Int)+1 by omega)]
   refine key _ _ (by simp[St,sx,h1,h3,h4]) (by simp[sx,h5]) (by simp[sx,hat]) fun t' g' eu e5 e0 en=>?_
   simp only[sy,e5,e0]
   exact ⟨en,eu⟩
  ·have hat:S.aI os j=0:=by unfold S.aI;rw[if_neg hb]
   simp only[sz,simprocAttr,h1,h5,hg,lg2,bl,show ¬(j:Int)<(os.length:Int) from by omega]
   refine key _ _ (by simp[St,sx,h1,h3,h4]) (by simp[sx,h5]) (by simp[sx,hat]) fun t' g' eu e5 e0 en=>?_
   simp only[sy,e5,e0]
   exact ⟨en,eu⟩
 ·rintro t df g ⟨rfl,hg,hnx,u,ht,hu⟩
  exact fin t g u ht hg hnx hu
theorem wS {k:Nat}{g:G}{P:Nat->Prop}{v:AV}{x:tA}(hd:0<d)(hm:Agg x P k g.h v) :
  ∃r,aU C0 d N.aE [v] g=.val r/\Cm NoP 0 .nil r:=by
 obtain ⟨v',e,cs,rfl,hc⟩:=xU (uS x) (by decide) d hm
 obtain ⟨_,_,rfl,hA',hB'⟩:=fM.1 hc
 obtain ⟨a,rfl,hA⟩:=bB.1 hA'
 obtain ⟨b,rfl,hB⟩:=bB.1 hB'
 obtain ⟨rows,r1,r2,r3,r4⟩:=hB.all
 have r1:∀h',aw h' 1 b=some rows:=r1
 obtain ⟨rows2,q1,q2,q3,q4⟩:=hA.all
 have q1:∀h',aw h' 1 a=some rows2:=q1
 have rg:∀(k:Nat) (y:UInt8),x.2[k]?=some y->rows[k]?=some [.int .u8 (y.toNat:Int)]:=fun k y hy=>by
  obtain ⟨row,z1,z2⟩:=r3 k y hy
  rw[z1,xT.1 z2]
 have qg:∀(k:Nat) (y:UInt8),x.1[k]?=some y->rows2[k]?=some [.int .u8 (y.toNat:Int)]:=fun k y hy=>by
  obtain ⟨row,z1,z2⟩:=q3 k y hy
  rw[z1,xT.1 z2]
 obtain ⟨n,hn⟩:∃n,n=min (max x.1.length 1) 6:=⟨_,rfl⟩
 have n1:1<=n:=by omega
 have n6:n<=6:=by omega
 obtain ⟨num,hN⟩:=BT x.2 n
 rw[iE]
 refine fJ ja (xs:=[.agg ([a]++[b])]) (by simp only[aH,e]) (by simp[dw]) (Aa fun o=>iN _) (by decide) hd ?_
 have lg1:aC (.cells 2 [[a,b]] 0 false false) 0 0 false 1 0=.val a:=rfl
 simp only[sz,simprocAttr,dw,eH,List.cons_append,List.nil_append,lg1,hA.len]
 have en:min (max (x.1.length:Int) 1) 6=(n:Int):=by omega
 rw[en]
 refine vP (a:=a) (b:=b) (n:=n) (os:=x.2) n6 hB.len r1 r2 rg (by simp[sx]) (by simp) (by simp[St,sx]) (by simp[sx]) ?_
 rintro t g u ⟨h1,h3,h4,-⟩ g0 hnx hu
 simp only[sz,simprocAttr,eA,h3]
 refine uy (b:=1) (n:=n) (bytes:=8) (sz:=1) (zero:=[.int .u64 0]) (by unfold fe;omega) (by unfold fe;omega) hnx fun w g1 hw n1' f1 hvid=>?_
 have hN0:NumI n num (List.replicate n 0):=wI
 have e0:(List.replicate n [AV.int .u64 0])=(List.replicate n 0).map cu:=by rw[List.map_replicate];rfl
 rw[e0] at hw
 have hD:GD a b u w n num (S.ap x.2 n) (List.replicate n 0) g1:=⟨by rw[f1 0 (by omega),g0],hu.fr (by omega) fun i hi=>f1 i (hu.lt hi).2,hw,fun i hi e=>by rw[hvid] at e;injection e with e;have:=(hu.lt hi).2;omega,hN0⟩
 simp only[sz,simprocAttr]
 refine wz (ps:=x.1) n6 hN hA.len q1 q2 qg hD (by simp[St,LGp,sx,h1,h3,h4]) (by simp[sx]) ?_
 rintro t g' Y' ⟨-,-,-,h8,-⟩ hD
 simp only[sz,simprocAttr,eG,h8]
 have hG:=yU hN n1 (by omega) hD.ni
 refine ⟨fun _=>True,Y',⟨hG,by rw[hD.ni.l];exact n6⟩,_,rfl,hD.ou.nats' (by rw[hD.ni.l];omega) fun y hy=>?_⟩
 have:=hG.hp y hy
 have:=iZ hG.l8
 omega
end
end
end Hx
end
section
namespace Hx
open Go
noncomputable section
theorem xe {p l:List Nat}:S.aD p l=0↔GOk p/\S.am p.length l 0=true:=by
 rw[S.aD]
 cases h1:S.aB p with
 | false=>simp;intro h;rw[gV.2 h] at h1;cases h1
 | true =>
  cases h2:S.am p.length l 0 with
  | false=>simp
  | true=>simp[gV.1 h1]
theorem su (g:G):aU C0 1 N.aK [] g=.val (.bool true):=by kernel_rfl
theorem x4 {a b v:Nat}:Bt (a ||| b) v↔Bt a v\/Bt b v:=by rw[Bt,Nat.testBit_or,Bool.or_eq_true];rfl
theorem eI {a b:Nat}:a &&& b=0↔∀v,¬(Bt a v/\Bt b v):=by
 rw[<-Classical.not_not (a:=a &&& b=0)]
 show ¬(a &&& b≠0)↔_
 rw[tV]
 exact ⟨fun h v hv=>h ⟨v,hv⟩,fun h ⟨v,hv⟩=>h v hv⟩
theorem qw {a b v:Nat}:Bt (a ^^^ (a &&& b)) v↔Bt a v/\¬Bt b v:=by
 rw[Bt,Nat.testBit_xor,Nat.testBit_and]
 unfold Bt
 cases a.testBit v<;>cases b.testBit v<;>simp
theorem qJ {a b n:Nat}(h:a<2 ^ n):a ^^^ (a &&& b)<2 ^ n:=Nat.xor_lt_two_pow h (Nat.lt_of_le_of_lt Nat.and_le_left h)
def Apt (p:List Nat)(x y z:Nat):Prop:=∀v,Bt y v->¬Re (Eg p) (Bt z) (Bt x) v
theorem zQ {p:List Nat}{x y z:Nat}(hy:y<2 ^ p.length):S.aa (Re (Eg p) (Bt z) (Bt x)) p.length &&& y=0↔Apt p x y z:=by
 rw[eI]
 constructor
 ·intro h v hv hr
  exact h v ⟨fG.2 ⟨ll hy hv,hr⟩,hv⟩
 ·rintro h v ⟨h1,h2⟩
  exact h v h2 (fG.1 h1).2
theorem AO {p:List Nat}{x y z:Nat}(hy:y &&& z=0)(h:Apt p x y z):Apt p y x z:=by
 intro v hv hr
 obtain ⟨u,hu,hr2⟩:=BB (X:=Bt y) (Y:=Bt x) (fun u hu hz=>eI.1 hy u ⟨hu,hz⟩) hv hr
 exact h u hu hr2
theorem lO {p:List Nat}{x y z:Nat}(hG:GOk p)(hx:x<2 ^ p.length)(hy:y<2 ^ p.length)(hz:z<2 ^ p.length)(h1:y &&& x=0)(h2:z &&& x=0)(h3:z &&& y=0):S.aD p [x,y,z]=0:=by
 refine xe.2 ⟨hG,xW.2 ⟨hx,hy,h1,hz,?_⟩⟩
 exact eI.2 fun v h=>(x4.1 h.2).elim (fun h'=>eI.1 h2 v ⟨h.1,h'⟩) fun h'=>eI.1 h3 v ⟨h.1,h'⟩
theorem oC {p:List Nat}{x y z:Nat}(hG:GOk p)(hx:x<2 ^ p.length)(hy:y<2 ^ p.length)(hz:z<2 ^ p.length)(h1:y &&& x=0)(h2:z &&& x=0)(h3:z &&& y=0):S.aH p x y z=true↔Apt p x y z:=by
 rw[S.aH,lO hG hx hy hz h1 h2 h3,<-zQ hy]
 simp only[decide_true,Bool.true_and,S.ay]
 exact ⟨of_decide_eq_true,fun h=>decide_eq_true h⟩
def S.a7 (x:Nat):Nat->Nat
 | 0=>0
 | k+1=>S.a7 x k+(if x.testBit k then 1 else 0)
def S.ae (x:Nat):Nat:=S.a7 x 8
def S.aw (set:Nat):List Nat:=(List.range 256).filter fun s=>decide (s &&& set=s)
def S.aQ (set part:Nat):Nat:=(part+(18446744073709551616 - set)) % 18446744073709551616 &&& set
def S.aP (set:Nat):List Nat->Bool
 | []=>false
 | [a]=>decide (a=set)
 | a::b::r=>decide (a≠set)&&decide (S.aQ set a=b)&&S.aP set (b::r)
theorem sO:∀set:Nat,set<256->S.aP set (S.aw set)=true/\(S.aw set)[0]?=some 0:=by decide +kernel
theorem qV:∀{l:List Nat} {set:Nat},S.aP set l=true->∀j a,l[j]?=some a->(a=set↔j+1=l.length)/\(a≠set->l[j+1]?=some (S.aQ set a))
 | [],_,h,_,_,_=>by cases h
 | [b],set,h,0,a,e=>by
  simp at e
  subst e
  rw[S.aP,decide_eq_true_iff] at h
  exact ⟨⟨fun _=>rfl,fun _=>h⟩,fun h'=>absurd h h'⟩
 | [b],set,h,j+1,a,e=>by simp at e
 | b::c::r,set,h,0,a,e=>by
  simp at e
  subst e
  simp only[S.aP,Bool.and_eq_true,decide_eq_true_iff] at h
  exact ⟨⟨fun h'=>absurd h' h.1.1,fun h'=>by simp at h'⟩,fun _=>by rw[h.1.2];rfl⟩
 | b::c::r,set,h,j+1,a,e=>by
  simp only[S.aP,Bool.and_eq_true,decide_eq_true_iff] at h
  obtain ⟨h1,h2⟩:=qV h.2 j a (by simpa using e)
  refine ⟨?_,fun h'=>by simpa using h2 h'⟩
  rw[h1]
  simp
theorem lu {set s:Nat}(hs:set<256):s∈S.aw set↔s &&& set=s:=by
 rw[S.aw,List.mem_filter,List.mem_range,decide_eq_true_iff]
 constructor
 ·exact fun h=>h.2
 ·intro h
  have:s<=set:=by rw[<-h];exact Nat.and_le_right
  exact ⟨by omega,h⟩
theorem z6 {set i j a b:Nat}(h1:(S.aw set)[i]?=some a)(h2:(S.aw set)[j]?=some b)(hab:a<b):i<j:=by
 have hp:(S.aw set).Pairwise (·<·):=List.pairwise_lt_range.filter _
 rw[List.pairwise_iff_getElem] at hp
 obtain ⟨hi,rfl⟩:=List.getElem?_eq_some_iff.1 h1
 obtain ⟨hj,rfl⟩:=List.getElem?_eq_some_iff.1 h2
 rcases Nat.lt_or_ge i j with h | h
 ·exact h
 ·rcases Nat.eq_or_lt_of_le h with e | h
  ·subst e;omega
  ·have:=hp j i hj hi h
   omega
def nl (p:List Nat)(x y s:Nat):Prop:=s<2 ^ p.length/\s &&& (2 ^ x ||| 2 ^ y)=0/\Apt p (2 ^ x) (2 ^ y) s
def LsP (p:List Nat)(x y s:Nat):Prop:=nl p x y s/\S.ae s<p.length/\∀s',nl p x y s'->S.ae s<S.ae s'\/(S.ae s=S.ae s'/\s<=s')
theorem Aw {p:List Nat}{x y s s':Nat}(h:LsP p x y s)(h':LsP p x y s'):s=s':=by
 have a:=h.2.2 s' h'.1
 have b:=h'.2.2 s h.1
 omega
def S.aK (p:List Nat)(x y:Nat):Nat×Bool:=@dite _ (∃s,LsP p x y s) (Classical.propDecidable _) (fun h=>(Classical.choose h,true)) fun _=>(0,false)
theorem qv {p:List Nat}{x y s:Nat}(h:LsP p x y s):S.aK p x y=(s,true):=by
 have hx:∃s,LsP p x y s:=⟨s,h⟩
 rw[S.aK,dif_pos hx]
 exact congrArg (·,true) (Aw (Classical.choose_spec hx) h)
theorem za {p:List Nat}{x y:Nat}(h:∀s,nl p x y s->p.length<=S.ae s):S.aK p x y=(0,false):=by
 have hx:¬∃s,LsP p x y s:=by
  rintro ⟨s,h1,h2,-⟩
  have:=h s h1
  omega
 rw[S.aK,dif_neg hx]
def S.aM (x:Nat):Nat:=(x / 2 ^ 1 &&& 6148914691236517205)+(x &&& 6148914691236517205)
def S.aN (x:Nat):Nat:=(x / 2 ^ 2 &&& 3689348814741910323)+(x &&& 3689348814741910323)
def S.aZ (x:Nat):Nat:=(x / 2 ^ 4+x) &&& 1085102592571150095
theorem B8:∀x:Nat,x<256->S.aM x<256/\S.aN (S.aM x)<256/\S.aZ (S.aN (S.aM x))<256/\S.aZ (S.aN (S.aM x))=S.ae x/\S.ae x &&& 127=S.ae x/\S.ae x<=8:=by decide +kernel
theorem B0 (q:Nat)(h:q<=8):aT .and (.int .i64 (q:Int)) (.int .i64 127)=.val (.int .i64 (q:Int)) :=
 match q,h with
 | 0,_=>by kernel_rfl
 | 1,_=>by kernel_rfl
 | 2,_=>by kernel_rfl
 | 3,_=>by kernel_rfl
 | 4,_=>by kernel_rfl
 | 5,_=>by kernel_rfl
 | 6,_=>by kernel_rfl
 | 7,_=>by kernel_rfl
 | 8,_=>by kernel_rfl
theorem z_ {d x:Nat}{g:G}(hd:0<d)(hx:x<256):aU C0 d N.aF [.int .u64 (x:Int)] g=.val (.int .i64 (S.ae x:Int)):=by
 obtain ⟨h1,h2,h3,h4,h5,h6⟩:=B8 x hx
 rw[gL]
 refine lS im (xs:=[.int .u64 (x:Int)]) (by simp only[aH,gQ]) (by simp[cE]) hd ?_
 have s1:∀x:Nat,x<256->aT .shr (.int .u64 (x:Int)) (.int .u64 1)=.val (.int .u64 ((x / 2 ^ 1:Nat):Int)):=fun x h=>aP .u64 x 1 (by omega)
 have s2:∀x:Nat,x<256->aT .shr (.int .u64 (x:Int)) (.int .u64 2)=.val (.int .u64 ((x / 2 ^ 2:Nat):Int)):=fun x h=>aP .u64 x 2 (by omega)
 have s3:∀x:Nat,x<256->aT .shr (.int .u64 (x:Int)) (.int .u64 4)=.val (.int .u64 ((x / 2 ^ 4:Nat):Int)):=fun x h=>aP .u64 x 4 (by omega)
 have s4:∀x:Nat,x<256->aT .shr (.int .u64 (x:Int)) (.int .u64 8)=.val (.int .u64 0):=fun x h=>by
  have:=aP .u64 x 8 (by omega)
  rw[Nat.div_eq_of_lt (by omega)] at this;exact this
 have s5:∀x:Nat,x<256->aT .shr (.int .u64 (x:Int)) (.int .u64 16)=.val (.int .u64 0):=fun x h=>by
  have:=aP .u64 x 16 (by omega)
  rw[Nat.div_eq_of_lt (by omega)] at this;exact this
 have s6:∀x:Nat,x<256->aT .shr (.int .u64 (x:Int)) (.int .u64 32)=.val (.int .u64 0):=fun x h=>by
  have:=aP .u64 x 32 (by omega)
  rw[Nat.div_eq_of_lt (by omega)] at this;exact this
 have d1:∀x k:Nat,x<256->x / 2 ^ k<256:=fun x k h=>Nat.lt_of_le_of_lt (Nat.div_le_self _ _) h
 have a1:∀x:Nat,x<256->aT .and (.int .u64 (x:Int)) (.int .u64 6148914691236517205)=.val (.int .u64 ((x &&& 6148914691236517205:Nat):Int)):=fun x h=>da x 6148914691236517205 (by omega) (by decide)
 have a2:∀x:Nat,x<256->aT .and (.int .u64 (x:Int)) (.int .u64 3689348814741910323)=.val (.int .u64 ((x &&& 3689348814741910323:Nat):Int)):=fun x h=>da x 3689348814741910323 (by omega) (by decide)
 have a3:∀x:Nat,x<512->aT .and (.int .u64 (x:Int)) (.int .u64 1085102592571150095)=.val (.int .u64 ((x &&& 1085102592571150095:Nat):Int)):=fun x h=>da x 1085102592571150095 (by omega) (by decide)
 have w1:IntKind.wrap .u64 (((x / 2 ^ 1 &&& 6148914691236517205:Nat):Int)+((x &&& 6148914691236517205:Nat):Int))=((S.aM x:Nat):Int):=by
  rw[S.aM] at h1
  rw[eD (by omega) (by omega),S.aM];omega
 obtain ⟨y,hy⟩:∃y,y=S.aM x:=⟨_,rfl⟩
 rw[<-hy] at h1 h2 h3 h4 w1
 have w2:IntKind.wrap .u64 (((y / 2 ^ 2 &&& 3689348814741910323:Nat):Int)+((y &&& 3689348814741910323:Nat):Int))=((S.aN y:Nat):Int):=by
  rw[S.aN] at h2
  rw[eD (by omega) (by omega),S.aN];omega
 obtain ⟨z,hz⟩:∃z,z=S.aN y:=⟨_,rfl⟩
 rw[<-hz] at h2 h3 h4 w2
 have hz4:=d1 z 4 h2
 have w3:IntKind.wrap .u64 (((z / 2 ^ 4:Nat):Int)+(z:Int))=((z / 2 ^ 4+z:Nat):Int):=by rw[eD (by omega) (by omega)];omega
 have a3z:=a3 (z / 2 ^ 4+z) (by omega)
 rw[show z / 2 ^ 4+z &&& 1085102592571150095=S.aZ z from rfl,h4] at a3z
 rw[h4] at h3
 have w4:IntKind.wrap .u64 ((S.ae x:Int)+0)=(S.ae x:Int):=by rw[eD (by omega) (by omega)];omega
 have w5:IntKind.wrap .i64 (S.ae x:Int)=(S.ae x:Int):=iH (by omega) (by omega)
 have a4:=B0 (S.ae x) h6
 simp only[sz,simprocAttr,cE,s1 x hx,a1 _ (d1 x 1 hx),a1 x hx,w1,s2 y h1,a2 _ (d1 y 2 h1),a2 y h1,w2,s3 z h2,w3,a3z,s4 _ h3,s5 _ h3,s6 _ h3,w4,w5,a4]
theorem xV {d x:Nat}{g:G}(hd:0<d)(hx:x<256):aU C0 d N.ax [.int .u64 (x:Int)] g=.val (.int .i64 (S.ae x:Int)):=by
 rw[hK]
 refine lS iW (xs:=[.int .u64 (x:Int)]) (by simp only[aH,gQ]) (by simp[cT]) hd ?_
 have k:=fun g=>z_ (d:=d+1) (g:=g) (Nat.succ_pos d) hx
 simp only[sz,simprocAttr,cT,k]
def SbV (s z:AV):VS:=fun P k h v=>∃p q,v=.clo N.au [] [p,q]/\((∃id,p=.hptr id 0 0 0/\P id/\h.get id=.cells 1 [[s]] 0 false false)\/∃t,p=.tptr t 1 [[s]] 0 0/\t<=k)/\((∃id,q=.hptr id 0 0 0/\P id/\h.get id=.cells 1 [[z]] 0 false false)\/∃t,q=.tptr t 1 [[z]] 0 0/\t<=k)
theorem BI {s z:AV}{k1 k2:IntKind}{q1 q2:Int}(hs:s=.int k1 q1)(hz:z=.int k2 q2):Snb (SbV s z) 4:=by
 refine ⟨fun {P k h v j} d r hn=>?_,fun {k h v j} r hn=>?_⟩
 ·obtain ⟨p,q,rfl,r1,r2⟩:=r
  obtain ⟨j,rfl⟩:∃i,j=i+4:=⟨j - 4,by omega⟩
  have one:∀{s p:AV} {k1:IntKind} {q1:Int},s=.int k1 q1->((∃id,p=.hptr id 0 0 0/\P id/\h.get id=.cells 1 [[s]] 0 false false)\/∃t,p=.tptr t 1 [[s]] 0 0/\t<=k)->∃p',Hx.snap h d (j+3) p=some p'/\∃t,p'=.tptr t 1 [[s]] 0 0/\t<=max k d:=by
   intro s p k1 q1 hs r1
   rcases r1 with ⟨id,rfl,-,hg⟩ | ⟨t,rfl,ht⟩
   ·exact ⟨_,vo hs d j hg,_,rfl,by show max d 0<=_;omega⟩
   ·exact ⟨_,rfl,_,rfl,by omega⟩
  obtain ⟨p',e1,s1⟩:=one hs r1
  obtain ⟨q',e2,s2⟩:=one hz r2
  refine ⟨.clo N.au [] [p',q'],?_,p',q',rfl,.inr s1,.inr s2⟩
  show (match aH (Hx.snap h d (j+3)) [],aH (Hx.snap h d (j+3)) [p,q] with | some as',some cs=>some (AV.clo N.au as' cs) | _,_=>none)=_
  simp only[aH,e1,e2]
 ·obtain ⟨p,q,rfl,r1,r2⟩:=r
  obtain ⟨j,rfl⟩:∃i,j=i+4:=⟨j - 4,by omega⟩
  rcases r1 with ⟨id,rfl,hP,-⟩ | ⟨t,rfl,ht⟩
  ·exact hP.elim
  rcases r2 with ⟨id,rfl,hP,-⟩ | ⟨t2,rfl,ht2⟩
  ·exact hP.elim
  subst hs hz
  exact ⟨_,rfl,by show max t (max t2 0)<=k;omega⟩
def sbC (s:Nat)(z:Nat):AV:=.clo N.au [] [.tptr 0 1 [[.int .u64 (s:Int)]] 0 0,.tptr 0 1 [[.int .i64 (z:Int)]] 0 0]
theorem t_ {d s z:Nat}{g:G}(hd:0<d):aU C0 d N.aA [.int .u64 (s:Int),.int .i64 (z:Int)] g=.val (sbC s z):=by
 have key:∃r,aU C0 d N.aA [.int .u64 (s:Int),.int .i64 (z:Int)] g=.val r/\SbV (.int .u64 (s:Int)) (.int .i64 (z:Int)) NoP 0 .nil r:=by
  rw[i6]
  refine fJ jS (xs:=[.int .u64 (s:Int),.int .i64 (z:Int)]) rfl (by simp[dO]) (BI rfl rfl) (by decide) hd ?_
  simp only[sz,simprocAttr,dO,fd]
  exact ⟨fun _=>True,_,_,rfl,.inl ⟨0,rfl,trivial,by simp[sx,H.get_put]⟩,.inl ⟨1,rfl,trivial,by simp[sx,H.get_put]⟩⟩
 obtain ⟨r,h1,p,q,rfl,h2,h3⟩:=key
 rcases h2 with ⟨id,rfl,hP,-⟩ | ⟨t,rfl,ht⟩
 ·exact hP.elim
 rcases h3 with ⟨id,rfl,hP,-⟩ | ⟨t2,rfl,ht2⟩
 ·exact hP.elim
 rw[h1,show t=0 by omega,show t2=0 by omega];rfl
theorem xr {s a:Nat}(hs:s<256)(ha:a<=s):IntKind.wrap .u64 ((a:Int) - (s:Int))=(((a+(18446744073709551616 - s)) % 18446744073709551616:Nat):Int):=by
 show ((a:Int) - (s:Int)) % 18446744073709551616=_
 omega
theorem sG {C:Cfg}{t:T}{g:G}{a id:Nat}{xs:List Od}(h:tat t a=.yld id):SO.foot C t g (.dyn (.t a) xs)=aO:=by
 show (match tat t a with
  | .clo f first cap=>af ((C.ext f).isSome || C.iso f) (ah ((first++(dC t xs++cap)).flatMap (au g.h ay))) aO
  | _=>aO)=_
 rw[h]
theorem Ai {d id s z:Nat}{g0:G}{K:AV->G->Prop}(hd:0<d)(hs:s<256)(J:Nat->H->Prop)(E:G->Prop)
  (skip:∀(j a:Nat) (h:H),(S.aw s)[j]?=some a->S.ae a≠z->J j h->J (j+1) h)
  (step:∀(j a:Nat) (g:G) (K':AV->G->Prop) (D:ADf->Prop),(S.aw s)[j]?=some a->S.ae a=z->g0.nx<=g.nx->J j g.h ->
   (∀g',J (j+1) g'.h->g.nx<=g'.nx->K' (.bool true) g')->(∀g',E g'->g.nx<=g'.nx->K' (.bool false) g')->(bW (I C0) d id [.int .u64 (a:Int)] g).sat K' g D)
  (hE:∀g g':G,E g->g.nx<=g'.nx->g'.h=g.h->E g')
  (h0:J 0 g0.h) (fin:∀g',J (S.aw s).length g'.h->g0.nx<=g'.nx->K (.tup []) g') (finE:∀g',E g'->g0.nx<=g'.nx->K (.tup []) g') :
  wp C0 d none a7.code (fnQ C0 d a7.res K) (bw 0 [.yld id,.tptr 0 1 [[.int .u64 (s:Int)]] 0 0,.tptr 0 1 [[.int .i64 (z:Int)]] 0 0] .nil) [] g0:=by
 obtain ⟨hch,hc0⟩:=sO s hs
 simp only[sz,simprocAttr,a7]
 refine nV (fun n t df g=>df=[]/\∃j a:Nat,n=(S.aw s).length - j/\(S.aw s)[j]?=some a/\St t [(0,.yld id),(1,.tptr 0 1 [[.int .u64 (s:Int)]] 0 0),(2,.tptr 0 1 [[.int .i64 (z:Int)]] 0 0),(4,.int .u64 (a:Int))]/\J j g.h/\g0.nx<=g.nx) (S.aw s).length
  ⟨rfl,0,0,by omega,hc0,by simp[St,sx],h0,Nat.le_refl _⟩ ?_
 rintro n t df g ⟨rfl,j,a,rfl,hja,⟨t0,t1,t2,t4,-⟩,hJ,hn⟩
 have hjl:=(List.getElem?_eq_some_iff.1 hja).1
 obtain ⟨c1,c2⟩:=qV hch j a hja
 have ham:=(lu hs).1 (List.mem_of_getElem? hja)
 have has:a<=s:=by rw[<-ham];exact Nat.and_le_right
 have kO:=fun g=>xV (d:=d) (x:=a) (g:=g) hd (by omega)
 have hsub:=xr hs has
 have hand:=da ((a+(18446744073709551616 - s)) % 18446744073709551616) s (Nat.mod_lt _ (by decide)) (by omega)
 rw[show (a+(18446744073709551616 - s)) % 18446744073709551616 &&& s=S.aQ s a from rfl] at hand
 have hnx:=c2
 rw[show (S.aw s).length - j=(S.aw s).length - (j+1)+1 by omega]
 simp only[dZ]
 by_cases hp:S.ae a=z
 ·have e:((S.ae a:Nat):Int)=(z:Int):=by omega
  simp only[sz,simprocAttr,sf,t0,t1,t2,t4,kO,cw,e,bp]
  refine step j a _ _ _ hja hp (by simp;omega) (by simpa using hJ) ?_ ?_
  ·intro g' hJ' hn'
   simp only[sz,simprocAttr,sf,t0,t1,t2,t4,cw]
   rw[sG (id:=id) (by simp[sx])]
   refine ⟨?_,?_⟩
   ·simp only[List.reverse_cons,List.reverse_nil,List.nil_append,List.cons_append]
    exact bU [false,false,false,false,false,false,false,true,false,false] [] (by simp[All2,ah,aF,aO]) (by decide) (by simp)
   by_cases es:a=s
   ·have e':(a:Int)=(s:Int):=by omega
    simp only[sz,simprocAttr,e']
    refine fin _ ?_ ?_
    ·rw[<-c1.1 es];simpa using hJ'
    ·simp at hn' ⊢;omega
   ·have e':¬(a:Int)=(s:Int):=by omega
    simp only[sz,simprocAttr,t4,t1,cw,e',hsub,hand]
    refine ⟨_,by omega,j+1,S.aQ s a,rfl,c2 es,by simp[St,sx,t0,t1,t2],by simpa using hJ',by simp at hn' ⊢;omega⟩
  ·intro g' hE' hn'
   simp only[sz,simprocAttr,sf,t0,t1,t2,t4,cw]
   rw[sG (id:=id) (by simp[sx])]
   refine ⟨?_,?_⟩
   ·simp only[List.reverse_cons,List.reverse_nil,List.nil_append,List.cons_append]
    exact bU [false,false,false,false,false,false,false,true,false,false] [] (by simp[All2,ah,aF,aO]) (by decide) (by simp)
   refine finE _ (hE g' _ hE' ?_ ?_) ?_
   ·simp;omega
   ·simp
   ·simp at hn' ⊢;omega
 ·have e:¬((S.ae a:Nat):Int)=(z:Int):=by omega
  simp only[sz,simprocAttr,sf,t0,t1,t2,t4,kO,cw,e,bp]
  refine ⟨?_,?_⟩
  ·simp only[List.reverse_cons,List.reverse_nil,List.nil_append,List.cons_append]
   exact bU [false,false,false,false,false,false,false,false,false,false] [] (by simp[All2,ah,aF]) (by decide) (by simp)
  by_cases es:a=s
  ·have e':(a:Int)=(s:Int):=by omega
   simp only[sz,simprocAttr,e']
   refine fin _ ?_ (by simp;omega)
   rw[<-c1.1 es]
   simpa using skip j a _ hja hp hJ
  ·have e':¬(a:Int)=(s:Int):=by omega
   simp only[sz,simprocAttr,t4,t1,cw,e',hsub,hand]
   exact ⟨_,by omega,j+1,S.aQ s a,rfl,c2 es,by simp[St,sx,t0,t1,t2],by simpa using skip j a _ hja hp hJ,by first | omega | (simp;omega)⟩
theorem wQ:C0.ext N.au=none:=by kernel_rfl
theorem Ap {d nt y p s z:Nat}{ca cb:SC}{Q:QT}{t:T}{df:List ADf}{g:G}(hd:0<d)(hs:s<256)(hv:tat t y=sbC s z)(hp:p<nt)
  (J:Nat->H->Prop) (E:H->Prop) (hJ:∀j h h',(∀i,i<g.nx->h'.get i=h.get i)->J j h->J j h') (hE:∀h h',(∀i,i<g.nx->h'.get i=h.get i)->E h->E h') (h0:J 0 g.h)
  (skip:∀(j a:Nat) (h:H),(S.aw s)[j]?=some a->S.ae a≠z->J j h->J (j+1) h)
  (step:∀(j a:Nat) (g1:G),(S.aw s)[j]?=some a->S.ae a=z->J j g1.h->g.nx+2<=g1.nx ->
   wp C0 d (some (g.nx+1)) ca (fun e t1 df g1'=>e=.norm/\df=[]/\Fr g1 g1'/\∀g2:G,g2.nx=g1'.nx->(∀i,i≠g.nx+1->g2.h.get i=g1'.h.get i) ->
    wp C0 d (some (g.nx+1)) cb (fun e _ df g3=>df=[]/\RowQ g.nx g2 g3 e (J (j+1) g3.h) (E g3.h)) t1 [] g2)
    (d9 t p (.int .u64 (a:Int))) [] g1)
  (fin:∀g',J (S.aw s).length g'.h->g.nx+2<=g'.nx->g'.h.get g.nx=.dfr true->Q .norm t (.mark g.nx::df) g')
  (finE:∀g',E g'.h->g.nx+2<=g'.nx->g'.h.get g.nx=.dfr true->Q .ret t (.mark g.nx::df) g') :
  wp C0 d none (.rng nt (.t y) [p] ca cb) Q t df g:=by
 refine nR (fn:=N.au) (first:=[]) (cap:=[.tptr 0 1 [[.int .u64 (s:Int)]] 0 0,.tptr 0 1 [[.int .i64 (z:Int)]] 0 0]) (s:=a7) hv wQ iY (by simp[a7]) ?_
 intro assign body ha hb
 have e1:((g.new (.dfr true)).new (.loop nt t [p] assign body g.nx .ready none)).nx=g.nx+2:=by simp
 refine Ai (g0:=(g.new (.dfr true)).new (.loop nt t [p] assign body g.nx .ready none)) (id:=g.nx+1) hd hs
  (fun j h=>J j h/\h.get g.nx=.dfr true/\h.get (g.nx+1)=.loop nt t [p] assign body g.nx .ready none)
  (fun g'=>E g'.h/\g'.h.get g.nx=.dfr true/\g'.h.get (g.nx+1)=.loop nt t [p] assign body g.nx .done (some .ret)/\g.nx+2<=g'.nx) ?_ ?_ ?_ ?_ ?_ ?_
 ·rintro j a h hj hm ⟨a1,a2,a3⟩
  exact ⟨skip j a h hj hm a1,a2,a3⟩
 ·rintro j a g1 K' D hj hm hn ⟨a1,a2,a3⟩ kk kE
  rw[e1] at hn
  refine w7 a3 ha hb (t':=d9 t p (.int .u64 (a:Int))) ?_ ?_
  ·simp only[ct,aa,Nat.blt_eq,if_pos hp];rfl
  ·refine dM _ (step j a g1 hj hm a1 (by omega)) ?_
   rintro e t1 df g1' ⟨rfl,rfl,hfr,h⟩
   have hl0:g.nx+1<g1.nx:=by omega
   have hl:g.nx+1<g1'.nx:=Nat.lt_of_lt_of_le hl0 hfr.1
   have a2':g1'.h.get g.nx=.dfr true:=by rw[hfr.2 _ (by omega),a2]
   have a3':g1'.h.get (g.nx+1)=.loop nt t [p] assign body g.nx .ready none:=by rw[hfr.2 _ hl0,a3]
   refine ⟨rfl,rfl,a3',?_⟩
   refine dM _ (h (g1'.put (g.nx+1) (.loop nt t [p] assign body g.nx .busy none)) (by simp) (fun i hi=>by simp[H.get_put,hi])) ?_
   rintro e t2 df g3 ⟨rfl,⟨b2,b3,b1⟩⟩
   have b4:g3.h.get (g.nx+1)=.loop nt t [p] assign body g.nx .busy none:=by rw[b3 _ (by omega) (by simpa using hl)];simp[H.get_put]
   have b5:g3.h.get g.nx=.dfr true:=by
    rw[b3 _ (by omega) (by simp;omega)];simp[H.get_put,a2']
   refine ⟨rfl,b4,?_⟩
   have b2':g1'.nx<=g3.nx:=by simpa using b2
   have hf1:=hfr.1
   rcases b1 with ⟨rfl,b1⟩ | ⟨rfl,b1⟩
   ·refine .inl ⟨rfl,kk _ ⟨hJ _ g3.h _ (fun i hi=>by simp[H.get_put,show ¬i=g.nx+1 by omega]) b1,?_,?_⟩ (by simp;omega)⟩
    ·simp[H.get_put,b5]
    ·simp[H.get_put]
   ·refine .inr ⟨rfl,kE _ ⟨hE g3.h _ (fun i hi=>by simp[H.get_put,show ¬i=g.nx+1 by omega]) b1,?_,?_,?_⟩ ?_⟩
    ·simp[H.get_put,b5]
    ·simp[H.get_put]
    ·simp;omega
    ·simp;omega
 ·rintro g1 g2 ⟨a1,a2,a3,a4⟩ hn hh
  exact ⟨by rw[hh];exact a1,by rw[hh];exact a2,by rw[hh];exact a3,by omega⟩
 ·refine ⟨hJ 0 g.h _ (fun i hi=>?_) h0,?_,?_⟩
  ·simp[H.get_put,show ¬i=g.nx+1 by omega,show ¬i=g.nx by omega]
  ·simp[H.get_put]
  ·simp[H.get_put]
 ·rintro g' ⟨a1,a2,a3⟩ hn
  rw[e1] at hn
  refine ⟨_,_,_,_,_,_,.inl ⟨a3,fin _ (hJ _ g'.h _ (fun i hi=>by simp[H.get_put,show ¬i=g.nx+1 by omega]) a1) (by simpa using hn) ?_⟩⟩
  simp[H.get_put,a2]
 ·rintro g' ⟨a1,a2,a3,hn⟩ -
  refine ⟨_,_,_,_,_,_,.inr ⟨a3,finE _ (hE g'.h _ (fun i hi=>by simp[H.get_put,show ¬i=g.nx+1 by omega]) a1) (by simpa using hn) ?_⟩⟩
  simp[H.get_put,a2]
def S.au (n:Nat)(x y:Int)(zs:Nat):Bool:=decide (0<=x)&&decide (x<n)&&decide (0<=y)&&decide (y<n)&&S.am n [2 ^ x.toNat,2 ^ y.toNat,zs] 0
theorem B4 {d:Nat}{g:G}{v:AV}{p c:List Nat}{x y:Int}{zs:Nat}(hd:0<d)(hm:Agg ((p,c):List Nat×List Nat) NoP 0 g.h v)(n8:p.length<=8)(hz:zs<18446744073709551616) :
  aU C0 d N.aC [v,.int .i64 x,.int .i64 y,.int .u64 (zs:Int)] g=.val (.bool (S.au p.length x y zs)):=by
 have e0:=nT d hm
 have hm':∀h',Agg ((p,c):List Nat×List Nat) NoP 0 h' v:=fun h'=>ju hm
 obtain ⟨cs,rfl,hcs⟩:=hm
 obtain ⟨_,_,rfl,ha,hb⟩:=fM.1 hcs
 obtain ⟨pa,rfl,hpa⟩:=bB.1 ha
 obtain ⟨ch,rfl,hch⟩:=bB.1 hb
 have hpa:SlR NoP 0 .nil p pa:=hpa.tree (Nat.le_refl 0)
 have lp:=hpa.len
 have lg1:aC (.cells 2 [[pa,ch]] 0 false false) 0 0 false 1 0=.val pa:=rfl
 have lL:aC (.cells 2 [[pa,ch]] 0 false false) 0 0 true 2 0=.val (.agg [pa,ch]):=rfl
 rw[List.cons_append,List.nil_append] at e0 hm' ⊢
 rw[iq]
 refine ri i4 (xs:=[.agg [pa,ch],.int .i64 x,.int .i64 y,.int .u64 (zs:Int)]) (by simp only[aH,e0,gQ]) (by simp[aS]) hd ?_
 by_cases c1:x<0
 ·have hS:S.au p.length x y zs=false:=by simp[S.au];omega
  simp only[sz,simprocAttr,aS,aV,c1,hS]
 by_cases c2:(p.length:Int)<=x
 ·have hS:S.au p.length x y zs=false:=by simp[S.au];omega
  simp only[sz,simprocAttr,aS,aV,c1,c2,lg1,lp,hS]
 by_cases c3:y<0
 ·have hS:S.au p.length x y zs=false:=by simp[S.au];omega
  simp only[sz,simprocAttr,aS,aV,c1,c2,c3,lg1,lp,hS]
 by_cases c4:(p.length:Int)<=y
 ·have hS:S.au p.length x y zs=false:=by simp[S.au];omega
  simp only[sz,simprocAttr,aS,aV,c1,c2,c3,c4,lg1,lp,hS]
 obtain ⟨a,rfl⟩:=Int.eq_ofNat_of_zero_le (show 0<=x by omega)
 obtain ⟨b,rfl⟩:=Int.eq_ofNat_of_zero_le (show 0<=y by omega)
 have hS:S.au p.length (a:Int) (b:Int) zs=S.am p.length [2 ^ a,2 ^ b,zs] 0:=by
  rw[S.au,decide_eq_true (show (0:Int)<=(a:Int) by omega),decide_eq_true (show (0:Int)<=(b:Int) by omega),decide_eq_true (show (a:Int)<(p.length:Int) by omega),decide_eq_true (show (b:Int)<(p.length:Int) by omega)]
  rfl
 have s1:aT .shl (.int .u64 1) (.int .i64 (a:Int))=.val (.int .u64 ((2 ^ a:Nat):Int)):=by rw[aK,cm (by omega)]
 have s2:aT .shl (.int .u64 1) (.int .i64 (b:Int))=.val (.int .u64 ((2 ^ b:Nat):Int)):=by rw[aK,cm (by omega)]
 have la:(2:Nat) ^ a<=2 ^ 8:=Nat.pow_le_pow_right (by decide) (by omega)
 have lb:(2:Nat) ^ b<=2 ^ 8:=Nat.pow_le_pow_right (by decide) (by omega)
 obtain ⟨A,hA⟩:∃A,A=2 ^ a:=⟨_,rfl⟩
 obtain ⟨B,hB⟩:∃B,B=2 ^ b:=⟨_,rfl⟩
 rw[<-hA] at la s1 hS
 rw[<-hB] at lb s2 hS
 clear hA hB
 have kD:∀(g:G) (id:Nat),g.h.get id=.cells 1 [[.int .u64 (A:Int)],[.int .u64 (B:Int)],[.int .u64 (zs:Int)]] 0 false false->id<g.nx->aU C0 (d+1) N.af [.agg [pa,ch],.hsl id 0 0 3 none] g=.val (.bool (S.am p.length [A,B,zs] 0)) :=
  fun g id h hn=>vG (Nat.succ_pos d) (hm' g.h) (Ci (l:=[A,B,zs]) h hn (by simp) (by simp;omega)) n8
 have key:∀(t:T) (g:G),St t [(1,.int .i64 (a:Int)),(2,.int .i64 (b:Int)),(3,.int .u64 (zs:Int)),(4,.hptr 0 0 0 0)]->g.h.get 0=.cells 2 [[pa,ch]] 0 false false->1<=g.nx ->
   wp C0 (d+1) none (.seq (.feet [0,0,2,0,8,0,62,127,255] [o 31 (.load true 2 (.t 4)),oM 32 1,o 33 (.bin .shl (.k (.int .u64 1)) (.t 32)),oM 34 2,o 35 (.bin .shl (.k (.int .u64 1)) (.t 34)),oM 36 3,o 37 (.bsl 1 3 [.int .u64 0] [0,1,2] [.t 33,.t 35,.t 36]),o 38 (.call N.af [.t 31,.t 37]),oM 8 38]) (.ret)) (fnQ C0 (d+1) [SR.tm 8] fun v _=>v=AV.bool (S.am p.length [A,B,zs] 0)) t [] g:=by
  rintro t g ⟨t1,t2,t3,t4,-⟩ g0 hn
  simp only[sz,simprocAttr,sf,t1,t2,t3,t4,g0,lL,s1,s2,pL]
  rw[kD _ _ (by simp[H.get_put]) (by simp)]
  simp only[sz,simprocAttr,sf,fk]
  simp only[List.reverse_cons,List.reverse_nil,List.nil_append,List.cons_append]
  refine bU [false,false,false,false,false,false,true,false,false] [(0,6)] (by simp[All2,ah,aF]) (by decide) ?_
  rintro p hp x y hx hy
  simp only[List.mem_cons,List.not_mem_nil,or_false] at hp
  subst hp
  simp at hx hy
  subst hx;subst hy
  refine yH rfl rfl rfl rfl ?_ ?_ ?_<;>simp[ah,aF,ae]<;>omega
 rw[hS]
 simp only[sz,simprocAttr,aS]
 unfold aV
 refine oP (P:=fun t' df' g'=>df'=[]/\St t' [(1,.int .i64 (a:Int)),(2,.int .i64 (b:Int)),(3,.int .u64 (zs:Int)),(4,.hptr 0 0 0 0)]/\g'.h.get 0=.cells 2 [[pa,ch]] 0 false false/\1<=g'.nx) ?_ ?_
 ·simp only[sz,simprocAttr,c1,c2,c3,c4,lg1,lp]
  simp[St,sx]
 rintro t df g' ⟨rfl,ht,g0,hn⟩
 exact key t g' ht g0 hn
theorem mE {C:Cfg}{d:Nat}:∀(ms:List Nat) (g:G),ms.Nodup->(∀m∈ms,g.h.get m=.dfr true)->∃g',cx (I C) d (ms.map ADf.mark) g=some g'/\g'.nx=g.nx/\∀i,i ∉ ms->g'.h.get i=g.h.get i
 | [],g,_,_=>⟨g,rfl,rfl,fun _ _=>rfl⟩
 | m::ms,g,hn,hm=>by
  obtain ⟨h1,h2⟩:=List.nodup_cons.1 hn
  have hg:=hm m (by simp)
  obtain ⟨g',e,n',f'⟩:=mE (C:=C) (d:=d) ms (g.put m (.dfr false)) h2 fun k hk=>by
   have hkm:¬k=m:=fun e=>h1 (e ▸ hk)
   simp[H.get_put,hkm,hm k (by simp[hk])]
  refine ⟨g',?_,by rw[n'];simp,fun i hi=>?_⟩
  ·rw[<-e,List.map_cons]
   simp only[cx,G.get_eq,hg]
  ·simp only[List.mem_cons,not_or] at hi
   rw[f' i hi.2]
   simp[H.get_put,hi.1]
theorem nP {C:Cfg}{d:Nat}{r:List SR}{t:T}{g:G}{K:AV->G->Prop}{ms:List Nat}(hn:ms.Nodup)(hm:∀m∈ms,g.h.get m=.dfr true)(h:∀g':G,(∀i,i ∉ ms->g'.h.get i=g.h.get i)->km r t g' fun vs=>K (cZ vs) g'):i_ C d r t (ms.map .mark) g K:=by
 obtain ⟨g',e,-,f⟩:=mE (C:=C) (d:=d) ms g hn hm
 unfold i_
 rw[e]
 exact h g' f
theorem tj {n a b s:Nat}:s &&& ((2 ^ n - 1) ^^^ ((2 ^ n - 1) &&& (2 ^ a ||| 2 ^ b)))=s↔s<2 ^ n/\s &&& (2 ^ a ||| 2 ^ b)=0:=by
 have k:∀i,((2 ^ n - 1) ^^^ ((2 ^ n - 1) &&& (2 ^ a ||| 2 ^ b))).testBit i=true↔i<n/\¬Bt (2 ^ a ||| 2 ^ b) i:=fun i=>by
  have:=qw (a:=2 ^ n - 1) (b:=2 ^ a ||| 2 ^ b) (v:=i)
  rw[show Bt (2 ^ n - 1) i↔i<n by rw[Bt,Nat.testBit_two_pow_sub_one,decide_eq_true_iff]] at this
  exact this
 constructor
 ·intro h
  have hb:∀i,s.testBit i=true->i<n/\¬Bt (2 ^ a ||| 2 ^ b) i:=fun i hi=>by
   rw[<-h,Nat.testBit_and,Bool.and_eq_true] at hi
   exact (k i).1 hi.2
  refine ⟨Nat.lt_pow_two_of_testBit _ fun i hi=>?_,eI.2 fun i h=>(hb i h.1).2 h.2⟩
  rw[<-Bool.not_eq_true]
  intro h'
  have:=(hb i h').1
  omega
 ·rintro ⟨h1,h2⟩
  refine Nat.eq_of_testBit_eq fun i=>?_
  rw[Nat.testBit_and]
  cases hi:s.testBit i with
  | false=>rfl
  | true =>
   rw[(k i).2 ⟨ll h1 hi,fun h'=>eI.1 h2 i ⟨hi,h'⟩⟩];rfl
theorem z5 {p:List Nat}{x b z:Nat}:Apt p x (2 ^ b) z↔¬Re (Eg p) (Bt z) (Bt x) b:=by
 constructor
 ·intro h
  refine h b ?_
  rw[Bt,Nat.testBit_two_pow,decide_eq_true_iff]
 ·intro h v hv
  rw[Bt,Nat.testBit_two_pow,decide_eq_true_iff] at hv
  subst hv
  exact h
theorem zR {p:List Nat}{x b z:Nat}(hb:b<p.length):(S.ay p x z).testBit b=false↔Apt p x (2 ^ b) z:=by
 rw[z5,<-Bool.not_eq_true]
 refine not_congr ?_
 rw[S.ay,fG]
 exact ⟨fun h=>h.2,fun h=>⟨hb,h⟩⟩
def S.ah (p:List Nat)(x y:Int):Nat×Int:=if S.aB p then (if S.au p.length x y 0 then (if (S.aK p x.toNat y.toNat).2 then ((S.aK p x.toNat y.toNat).1,0) else (0,4)) else (0,2)) else (0,70)
def LLe (n:Nat):List (Nat×AV):=[(4,.hptr 0 0 0 0),(5,.hptr 1 0 0 0),(6,.hptr 2 0 0 0),(7,.hptr 3 0 0 0),(8,.hptr 4 0 0 0)]
structure LeB (a b:Nat) (pa ch:AV) (r e:AV) (ms:List Nat) (h:H):Prop where
 x:h.get 0=.cells 1 [[.int .i64 (a:Int)]] 0 false false
 y:h.get 1=.cells 1 [[.int .i64 (b:Int)]] 0 false false
 r:h.get 2=.cells 1 [[r]] 0 false false
 e:h.get 3=.cells 1 [[e]] 0 false false
 g:h.get 4=.cells 2 [[pa,ch]] 0 false false
 m:∀m∈ms,h.get m=.dfr true
theorem LeB.fr {a b:Nat}{pa ch r e:AV}{ms:List Nat}{h h':H}{n:Nat}(hb:LeB a b pa ch r e ms h)(h5:5<=n)(hm:∀m∈ms,m<n)(hf:∀i,i<n->h'.get i=h.get i):LeB a b pa ch r e ms h' :=
 ⟨by rw[hf 0 (by omega),hb.x],by rw[hf 1 (by omega),hb.y],by rw[hf 2 (by omega),hb.r],by rw[hf 3 (by omega),hb.e],by rw[hf 4 (by omega),hb.g],fun m hm'=>by rw[hf m (hm m hm'),hb.m m hm']⟩
theorem xO {d a b O:Nat}{Q:QT}{t:T}{g:G}{pa ch:AV}{p:List Nat}(hd:0<d)(hG:GOk p)(hm:∀h,Agg ((p,S.aF p):List Nat×List Nat) NoP 0 h (.agg [pa,ch]))(ha:a<p.length)(hb:b<p.length)
  (hO:O<256) (hOi:∀s,s &&& O=s↔s<2 ^ p.length/\s &&& (2 ^ a ||| 2 ^ b)=0)
  (hB:LeB a b pa ch (.int .u64 0) (.int .i64 0) [] g.h) (hn:5<=g.nx) (ht:St t ((10,.int .u64 (O:Int))::LLe 0)) (h42:tat t 42=.int .i64 0) (h41:tat t 41=.int .i64 (p.length:Int))
  (fin:∀t g' ms,St t (LLe 0)->ms.Nodup->LeB a b pa ch (.int .u64 0) (.int .i64 0) ms g'.h->(∀s,nl p a b s->p.length<=S.ae s)->Q (.exit 0) t (ms.map .mark) g')
  (finE:∀t g' ms (s:Nat),St t (LLe 0)->ms.Nodup->LeB a b pa ch (.int .u64 (s:Int)) (.int .i64 0) ms g'.h->LsP p a b s->Q .ret t (ms.map .mark) g'):wpL (wp C0 d none du) Q t [] g:=by
 have n8:=hG.l8
 have h256:=iZ n8
 simp only[du,fu]
 refine cp (m:=p.length) (by omega) (fun j t df g'=>∃ms:List Nat,df=ms.map .mark/\ms.Nodup/\(∀m∈ms,m<g'.nx)/\5<=g'.nx/\St t ((10,.int .u64 (O:Int))::LLe 0)/\LeB a b pa ch (.int .u64 0) (.int .i64 0) ms g'.h/\∀s,nl p a b s->j<=S.ae s)
  ⟨[],rfl,.nil,by simp,hn,ht,hB,fun _ _=>Nat.zero_le _⟩ h42 h41 (by decide)
  (by rintro j t df g v s (rfl | rfl | rfl) ⟨ms,a1,a2,a3,a4,⟨b1,b2,b3,b4,b5,b6,-⟩,c⟩<;>exact ⟨ms,a1,a2,a3,a4,by simp[St,LLe,sx,b1,b2,b3,b4,b5,b6],c⟩) ?_ ?_
 ·rintro j t df g1 hj ⟨ms,rfl,hnd,hml,hn1,⟨h10,h4,h5,h6,h7,h8,-⟩,hB,hlow⟩ h42 h41
  have kS:=fun g=>t_ (d:=d) (s:=O) (z:=j) (g:=g) hd
  simp only[sz,simprocAttr,h10,h42,kS]
  refine Ap (s:=O) (z:=j) hd hO (by simp[sx]) (by decide)
   (fun i h=>LeB a b pa ch (.int .u64 0) (.int .i64 0) ms h/\∀i' s,i'<i->(S.aw O)[i']?=some s->S.ae s=j->¬Apt p (2 ^ a) (2 ^ b) s)
   (fun h=>∃s:Nat,LeB a b pa ch (.int .u64 (s:Int)) (.int .i64 0) ms h/\LsP p a b s) ?_ ?_ ⟨hB,fun i' s h=>absurd h (Nat.not_lt_zero _)⟩ ?_ ?_ ?_ ?_
  ·rintro i h h' hh ⟨a1,a2⟩
   exact ⟨a1.fr hn1 hml hh,a2⟩
  ·rintro h h' hh ⟨s,a1,a2⟩
   exact ⟨s,a1.fr hn1 hml hh,a2⟩
  ·rintro i s h hi hp ⟨a1,a2⟩
   refine ⟨a1,fun i' s' hi' hs' hp'=>?_⟩
   by_cases e:i'=i
   ·subst e
    rw[hi] at hs';injection hs' with hs'
    subst hs';exact absurd hp' hp
   ·exact a2 i' s' (by omega) hs' hp'
  ·rintro i s g2 hi hp ⟨a1,a2⟩ hn2
   have hsO:=(hOi s).1 ((lu hO).1 (List.mem_of_getElem? hi))
   have hA:(2:Nat) ^ a<2 ^ p.length:=Nat.pow_lt_pow_right (by decide) ha
   simp only[sz,simprocAttr,fB]
   refine ⟨Fr.refl _,fun g3 hn3 hf3=>?_⟩
   have hB3:LeB a b pa ch (.int .u64 0) (.int .i64 0) ms g3.h:=a1.fr (n:=g1.nx) hn1 hml fun i hi=>hf3 i (by omega)
   obtain ⟨A,hAe⟩:∃A,A=2 ^ a:=⟨_,rfl⟩
   have s1:aT .shl (.int .u64 1) (.int .i64 (a:Int))=.val (.int .u64 (A:Int)):=by rw[aK,cm (by omega),hAe]
   have kR:=fun g:G=>sI (d:=d) (g:=g) (xs:=2 ^ a) (zs:=s) hd (hm g.h) hG.hp hG.l1 n8 (vv hG.hp) hA hsO.1
   rw[<-hAe] at kR
   have hR:S.ay p A s<2 ^ p.length:=mi _ _
   have hR':S.ay p A s<18446744073709551616:=by omega
   have lx:aC (.cells 1 [[.int .i64 (a:Int)]] 0 false false) 0 0 false 1 0=.val (.int .i64 (a:Int)):=rfl
   have ly:aC (.cells 1 [[.int .i64 (b:Int)]] 0 false false) 0 0 false 1 0=.val (.int .i64 (b:Int)):=rfl
   have lg:aC (.cells 2 [[pa,ch]] 0 false false) 0 0 true 2 0=.val (.agg [pa,ch]):=rfl
   have hbit:=zR (p:=p) (x:=A) (z:=s) hb
   cases hbv:(S.ay p A s).testBit b with
   | true =>
    have hna:¬Apt p (2 ^ a) (2 ^ b) s:=fun h=>by rw[<-hAe,<-hbit,hbv] at h;cases h
    simp only[sz,simprocAttr,dv,h4,h5,h8,hB3.x,hB3.y,hB3.g,lx,ly,lg,s1,kR,aP _ _ _ hR',jc hR',io,hbv]
    refine ⟨Nat.le_refl _,fun _ _ _=>rfl,.inl ⟨rfl,hB3,fun i' s' hi' hs' hp'=>?_⟩⟩
    by_cases e:i'=i
    ·subst e
     rw[hi] at hs';injection hs' with hs'
     subst hs';exact hna
    ·exact a2 i' s' (by omega) hs' hp'
   | false =>
    have hap:Apt p (2 ^ a) (2 ^ b) s:=by rw[<-hAe];exact hbit.1 hbv
    simp only[sz,simprocAttr,dv,h4,h5,h6,h7,h8,hB3.x,hB3.y,hB3.g,hB3.r,hB3.e,lx,ly,lg,s1,kR,aP _ _ _ hR',jc hR',io,hbv]
    have hmb:∀m∈ms,m≠2/\m≠3:=fun m hm'=>⟨fun e=>(by have:=hB3.m m hm';rw[e,hB3.r] at this;cases this),fun e=>(by have:=hB3.m m hm';rw[e,hB3.e] at this;cases this)⟩
    refine ⟨by simp,fun i h1 h2=>?_,.inr ⟨rfl,s,⟨?_,?_,?_,?_,?_,fun m hm'=>?_⟩,⟨hsO.1,hsO.2,hap⟩,by omega,fun s' hs'=>?_⟩⟩
    ·simp[H.get_put,show ¬i=2 by omega,show ¬i=3 by omega]
    ·simp[H.get_put,hB3.x]
    ·simp[H.get_put,hB3.y]
    ·simp[H.get_put]
    ·simp[H.get_put]
    ·simp[H.get_put,hB3.g]
    ·simp[H.get_put,(hmb m hm').1,(hmb m hm').2,hB3.m m hm']
    ·have h1:=hlow s' hs'
     rw[hp]
     rcases Nat.eq_or_lt_of_le h1 with h2 | h2
     ·refine .inr ⟨h2,?_⟩
      rcases Nat.lt_or_ge s' s with h3 | h3
      ·exfalso
       obtain ⟨i',hi',e⟩:=List.mem_iff_getElem.1 ((lu hO).2 ((hOi s').2 ⟨hs'.1,hs'.2.1⟩))
       have hs2:(S.aw O)[i']?=some s':=by rw[List.getElem?_eq_getElem hi',e]
       exact a2 i' s' (z6 hs2 hi h3) hs2 h2.symm hs'.2.2
      ·exact h3
     ·exact .inl h2
  ·rintro g' ⟨a1,a2⟩ hn' hdf
   simp only[sz,simprocAttr]
   refine ⟨⟨g1.nx::ms,rfl,List.nodup_cons.2 ⟨fun h=>absurd (hml _ h) (Nat.lt_irrefl _),hnd⟩,?_,by omega,by simp[St,LLe,sx,h4,h5,h6,h7,h8,h10],⟨a1.x,a1.y,a1.r,a1.e,a1.g,?_⟩,fun s hs=>?_⟩,h42,h41⟩
   ·intro m hm'
    rcases List.mem_cons.1 hm' with rfl | h
    ·omega
    ·have:=hml m h;omega
   ·intro m hm'
    rcases List.mem_cons.1 hm' with rfl | h
    ·exact hdf
    ·exact a1.m m h
   ·have h1:=hlow s hs
    rcases Nat.eq_or_lt_of_le h1 with h2 | h2
    ·exfalso
     obtain ⟨i',hi',e⟩:=List.mem_iff_getElem.1 ((lu hO).2 ((hOi s).2 ⟨hs.1,hs.2.1⟩))
     exact a2 i' s hi' (by rw[List.getElem?_eq_getElem hi',e]) h2.symm hs.2.2
    ·exact h2
  ·rintro g' ⟨s,a1,a2⟩ hn' hdf
   simp only[sz,simprocAttr]
   refine finE _ g' (g1.nx::ms) s (by simp[St,LLe,sx,h4,h5,h6,h7,h8]) (List.nodup_cons.2 ⟨fun h=>absurd (hml _ h) (Nat.lt_irrefl _),hnd⟩) ⟨a1.x,a1.y,a1.r,a1.e,a1.g,?_⟩ a2
   intro m hm'
   rcases List.mem_cons.1 hm' with rfl | h
   ·exact hdf
   ·exact a1.m m h
 ·rintro t df g' ⟨ms,rfl,hnd,-,-,ht,hB,hlow⟩
  exact fin t g' ms ht.2 hnd hB hlow
theorem xM {n a b:Nat}(ha:a<n)(hb:b<n):S.am n [2 ^ a,2 ^ b,0] 0=true↔a≠b:=by
 rw[xW]
 have h1:(2:Nat) ^ a<2 ^ n:=Nat.pow_lt_pow_right (by decide) ha
 have h2:(2:Nat) ^ b<2 ^ n:=Nat.pow_lt_pow_right (by decide) hb
 have h0:0<2 ^ n:=Nat.pow_pos (by decide)
 have:2 ^ b &&& 2 ^ a=0↔a≠b:=by
  rw[eI]
  constructor
  ·intro h e
   subst e
   refine h a ⟨?_,?_⟩<;>rw[Bt,Nat.testBit_two_pow,decide_eq_true_iff]
  ·rintro h v ⟨h1,h2⟩
   rw[Bt,Nat.testBit_two_pow,decide_eq_true_iff] at h1 h2
   exact h (by omega)
 simp[h1,h2,h0,this]
theorem rV {d:Nat}{g:G}{v:AV}{p:List Nat}{x y:Int}(hd:0<d)(hv:SlR NoP 0 .nil p v) :
  aU C0 d N.ae [v,.int .i64 x,.int .i64 y] g=.val (.tup [.int .u64 ((S.ah p x y).1:Int),.int .i64 (S.ah p x y).2]):=by
 have hb64:(S.ah p x y).1<18446744073709551616:=by
  unfold S.ah
  split
  ·rename_i hG
   have h256:=iZ (gV.1 hG).l8
   split
   ·split
    ·show (S.aK p x.toNat y.toNat).1<_
     unfold S.aK
     split
     ·rename_i h
      have:=(Classical.choose_spec h).1.1
      show Classical.choose h<_
      omega
     ·show 0<_;decide
    ·decide
   ·decide
  ·decide
 have key:∃r,aU C0 d N.ae [v,.int .i64 x,.int .i64 y] g=.val r/\wZ (One (S.ah p x y).1) (One (S.ah p x y).2) NoP 0 .nil r:=by
  have e:=qE (h:=g.h) d (hv.tree (h':=g.h) (Nat.le_refl 0))
  have fin:∀{h:H} {r:Nat} {e:Int},S.ah p x y=(r,e)->∃P,wZ (One (S.ah p x y).1) (One (S.ah p x y).2) P 0 h (.tup [.int .u64 (r:Int),.int .i64 e]):=fun h1 =>
   ⟨fun _=>True,_,_,rfl,nJ.2 ⟨by rw[h1],hb64⟩,jA.2 (by rw[h1])⟩
  clear hb64
  rw[jQ]
  refine fJ lV (xs:=[v,.int .i64 x,.int .i64 y]) (by simp only[aH,e,gQ]) (by simp[eL]) (ny (m:=1) (iN _) (iN _) (by decide) (by decide)) (by decide) hd ?_
  simp only[sz,simprocAttr,eL,f7]
  refine tK (rD (Nat.succ_pos d) hv) fun z hz'=>?_
  obtain ⟨a,b,rfl,ha',hb⟩:=hz'
  have hA:=ha'
  obtain ⟨cs,rfl,hcs⟩:=ha'
  obtain ⟨_,_,rfl,ha,hb2⟩:=fM.1 hcs
  obtain ⟨pa,rfl,hpa⟩:=bB.1 ha
  obtain ⟨ch,rfl,-⟩:=bB.1 hb2
  obtain rfl:b=.int .i64 (if S.aB p then (0:Int) else 70):=by simpa using jA.1 hb
  have ld:aC (.cells 2 [[pa,ch]] 0 false false) 0 0 true 2 0=.val (.agg [pa,ch]):=rfl
  have lx:aC (.cells 1 [[.int .i64 x]] 0 false false) 0 0 false 1 0=.val (.int .i64 x):=rfl
  have ly:aC (.cells 1 [[.int .i64 y]] 0 false false) 0 0 false 1 0=.val (.int .i64 y):=rfl
  cases hG:S.aB p with
  | false =>
   have h70:S.ah p x y=(0,70):=by simp[S.ah,hG]
   simp only[sz,simprocAttr,List.cons_append,List.nil_append]
   exact fin h70
  | true =>
   have hGo:=gV.1 hG
   have h256:=iZ hGo.l8
   rw[S.gr,hG,if_pos rfl,List.cons_append,List.nil_append] at hA
   have kT:∀g,aU C0 (d+1) N.aC [.agg [pa,ch],.int .i64 x,.int .i64 y,.int .u64 0] g=.val (.bool (S.au p.length x y 0)):=fun g=>B4 (zs:=0) (Nat.succ_pos d) (ju hA) hGo.l8 (by decide)
   cases hT:S.au p.length x y 0 with
   | false =>
    have h2:S.ah p x y=(0,2):=by simp[S.ah,hG,hT]
    rw[hT] at kT
    simp only[sz,simprocAttr,List.cons_append,List.nil_append,ld,lx,ly,H.get_put,kT]
    exact fin h2
   | true =>
    rw[hT] at kT
    have hT':=hT
    simp only[S.au,Bool.and_eq_true,decide_eq_true_eq] at hT'
    obtain ⟨⟨⟨⟨x0,x1⟩,y0⟩,y1⟩,hdj⟩:=hT'
    obtain ⟨a,rfl⟩:=Int.eq_ofNat_of_zero_le x0
    obtain ⟨b,rfl⟩:=Int.eq_ofNat_of_zero_le y0
    have hal:a<p.length:=by omega
    have hbl:b<p.length:=by omega
    have hpa':SlR NoP 0 .nil p pa:=by
     have:(S.gr p).1=p:=by rw[S.gr,hG];rfl
     rw[<-this];exact hpa.tree (Nat.le_refl 0)
    have lp:=hpa'.len
    have n8:=hGo.l8
    have hm:∀h,Agg ((p,S.aF p):List Nat×List Nat) NoP 0 h (.agg [pa,ch]):=fun h=>ju hA
    have lg1:aC (.cells 2 [[pa,ch]] 0 false false) 0 0 false 1 0=.val pa:=rfl
    obtain ⟨O,hO⟩:∃O,O=(2 ^ p.length - 1) ^^^ ((2 ^ p.length - 1) &&& (2 ^ a ||| 2 ^ b)):=⟨_,rfl⟩
    have hOi:∀s,s &&& O=s↔s<2 ^ p.length/\s &&& (2 ^ a ||| 2 ^ b)=0:=fun s=>by rw[hO];exact tj
    have hp1:1<=2 ^ p.length:=Nat.one_le_two_pow
    have hOl:O<256:=by
     have:O<2 ^ p.length:=by rw[hO];exact qJ (by omega)
     omega
    obtain ⟨m,hmm⟩:∃m,m=2 ^ p.length - 1:=⟨_,rfl⟩
    obtain ⟨A,hAe⟩:∃A,A=2 ^ a:=⟨_,rfl⟩
    obtain ⟨B,hBe⟩:∃B,B=2 ^ b:=⟨_,rfl⟩
    have lA:A<256:=by
     have:(2:Nat) ^ a<2 ^ p.length:=Nat.pow_lt_pow_right (by decide) hal
     omega
    have lB:B<256:=by
     have:(2:Nat) ^ b<2 ^ p.length:=Nat.pow_lt_pow_right (by decide) hbl
     omega
    have s0:aT .shl (.int .u64 1) (.int .i64 (p.length:Int))=.val (.int .u64 ((2 ^ p.length:Nat):Int)):=by rw[aK,cm (by omega)]
    have s1:aT .shl (.int .u64 1) (.int .i64 (a:Int))=.val (.int .u64 (A:Int)):=by rw[aK,cm (by omega),hAe]
    have s2:aT .shl (.int .u64 1) (.int .i64 (b:Int))=.val (.int .u64 (B:Int)):=by rw[aK,cm (by omega),hBe]
    have wm:IntKind.wrap .u64 (((2 ^ p.length:Nat):Int) - 1)=(m:Int):=by rw[eD (by omega) (by omega)];omega
    have o1:=g7 A B (by omega) (by omega)
    have lAB:A ||| B<18446744073709551616:=uI (by omega) (by omega)
    have d1:=gg m (A ||| B) (by omega) lAB
    rw[show m ^^^ m &&& (A ||| B)=O by rw[hO,hmm,hAe,hBe]] at d1
    clear hmm hAe hBe
    obtain ⟨g0,hg0⟩:∃g0,g0=((((((G.empty.new (AObj.cells 1 [[AV.int IntKind.i64 (a:Int)]] 0 false false)).new (AObj.cells 1 [[AV.int IntKind.i64 (b:Int)]] 0 false false)).new (AObj.cells 1 [[AV.int IntKind.u64 0]] 0 false false)).new (AObj.cells 1 [[AV.int IntKind.i64 0]] 0 false false)).new (AObj.cells 2 [[AV.nils,AV.nils]] 0 false false)).put 4 (AObj.cells 2 [[pa,ch]] 0 false false)):=⟨_,rfl⟩
    have hLB:LeB a b pa ch (.int .u64 0) (.int .i64 0) [] g0.h:=by
     rw[hg0]
     refine ⟨?_,?_,?_,?_,?_,by simp⟩<;>simp[sx,H.get_put]
    have hn0:5<=g0.nx:=by rw[hg0];simp
    simp only[sz,simprocAttr,List.cons_append,List.nil_append,ld,lx,ly,H.get_put,kT]
    rw[<-hg0]
    clear hg0
    simp only[sz,simprocAttr,hLB.x,hLB.y,hLB.g,lx,ly,lg1,lp,s0,wm,s1,s2,o1,d1]
    refine xO (a:=a) (b:=b) (O:=O) (pa:=pa) (ch:=ch) (p:=p) (Nat.succ_pos d) hGo hm hal hbl hOl hOi hLB hn0 (by simp[St,LLe,sx]) (by simp[sx]) (by simp[sx]) ?_ ?_
    ·rintro t g' ms ⟨h4,h5,h6,h7,h8,-⟩ hnd hB hno
     have hv4:S.ah p (a:Int) (b:Int)=(0,4):=by simp[S.ah,hG,hT,za hno]
     simp only[sz,simprocAttr,fw,h6,h7,hB.r,hB.e]
     have hmb:∀m∈ms,m≠2/\m≠3:=fun m hm'=>⟨fun e=>(by have:=hB.m m hm';rw[e,hB.r] at this;cases this),fun e=>(by have:=hB.m m hm';rw[e,hB.e] at this;cases this)⟩
     refine nP hnd (fun m hm'=>by simp[H.get_put,(hmb m hm').1,(hmb m hm').2,hB.m m hm']) fun g2 f2=>?_
     have k2:g2.h.get 2=.cells 1 [[AV.int IntKind.u64 0]] 0 false false:=by
      rw[f2 2 fun h=>(hmb 2 h).1 rfl];simp[H.get_put]
     have k3:g2.h.get 3=.cells 1 [[AV.int IntKind.i64 4]] 0 false false:=by
      rw[f2 3 fun h=>(hmb 3 h).2 rfl];simp[H.get_put]
     simp only[sz,simprocAttr,h6,h7,k2,k3]
     exact fin hv4
    ·rintro t g' ms s ⟨h4,h5,h6,h7,h8,-⟩ hnd hB hls
     have hv0:S.ah p (a:Int) (b:Int)=(s,0):=by simp[S.ah,hG,hT,qv hls]
     have hmb:∀m∈ms,m≠2/\m≠3:=fun m hm'=>⟨fun e=>(by have:=hB.m m hm';rw[e,hB.r] at this;cases this),fun e=>(by have:=hB.m m hm';rw[e,hB.e] at this;cases this)⟩
     simp only[sz,simprocAttr]
     refine nP hnd hB.m fun g2 f2=>?_
     have k2:=f2 2 fun h=>(hmb 2 h).1 rfl
     have k3:=f2 3 fun h=>(hmb 3 h).2 rfl
     rw[hB.r] at k2
     rw[hB.e] at k3
     simp only[sz,simprocAttr,h6,h7,k2,k3]
     exact fin hv0
 obtain ⟨r,h1,a,b,rfl,h2,h3⟩:=key
 have h2:=(nJ.1 h2).1
 have h3:=jA.1 h3
 injection h2 with h2
 injection h3 with h3
 rw[h1,h2,h3]
def Bc (x:AV):Prop:=(∃k q,x=.int k q)\/∃b,x=.bool b
def ClV (f:Nat)(s:AV):VS:=fun P k h v=>∃p,v=.clo f [] [p]/\((∃id,p=.hptr id 0 0 0/\P id/\h.get id=.cells 1 [[s]] 0 false false)\/∃t,p=.tptr t 1 [[s]] 0 0/\t<=k)
theorem AM {h:H}{id:Nat}{x:AV}(hx:Bc x)(d j:Nat)(hg:h.get id=.cells 1 [[x]] 0 false false):Hx.snap h d (j+3) (.hptr id 0 0 0)=some (.tptr (Nat.max d 0) 1 [[x]] 0 0):=by
 rcases hx with ⟨k,q,rfl⟩ | ⟨b,rfl⟩ <;>
 ·simp only[Hx.snap,hg,show Nat.beq 0 0=true from rfl,aH]
  rfl
theorem tN {f:Nat}{s:AV}(hs:Bc s):Snb (ClV f s) 4:=by
 refine ⟨fun {P k h v j} d r hn=>?_,fun {k h v j} r hn=>?_⟩
 ·obtain ⟨p,rfl,r1⟩:=r
  obtain ⟨j,rfl⟩:∃i,j=i+4:=⟨j - 4,by omega⟩
  obtain ⟨p',e1,s1⟩:∃p',Hx.snap h d (j+3) p=some p'/\∃t,p'=.tptr t 1 [[s]] 0 0/\t<=max k d:=by
   rcases r1 with ⟨id,rfl,-,hg⟩ | ⟨t,rfl,ht⟩
   ·exact ⟨_,AM hs d j hg,_,rfl,by show max d 0<=_;omega⟩
   ·exact ⟨_,rfl,_,rfl,by omega⟩
  refine ⟨.clo f [] [p'],?_,p',rfl,.inr s1⟩
  show (match aH (Hx.snap h d (j+3)) [],aH (Hx.snap h d (j+3)) [p] with | some as',some cs=>some (AV.clo f as' cs) | _,_=>none)=_
  simp only[aH,e1]
 ·obtain ⟨p,rfl,r1⟩:=r
  obtain ⟨j,rfl⟩:∃i,j=i+4:=⟨j - 4,by omega⟩
  rcases r1 with ⟨id,rfl,hP,-⟩ | ⟨t,rfl,ht⟩
  ·exact hP.elim
  exact ⟨Nat.max t 0,rfl,by show max t 0<=k;omega⟩
def jd (f:Nat)(s:AV):AV:=.clo f [] [.tptr 0 1 [[s]] 0 0]
theorem sY {f:Nat}{s r:AV}(h:ClV f s NoP 0 .nil r):r=jd f s:=by
 obtain ⟨p,rfl,h2⟩:=h
 rcases h2 with ⟨id,rfl,hP,-⟩ | ⟨t,rfl,ht⟩
 ·exact hP.elim
 rw[show t=0 by omega];rfl
theorem tT {d:Nat}{g:G}{w:Bool}(hd:0<d):aU C0 d N.ak [.bool w] g=.val (jd N.aa (.bool w)):=by
 have key:∃r,aU C0 d N.ak [.bool w] g=.val r/\ClV N.aa (.bool w) NoP 0 .nil r:=by
  rw[lR]
  refine fJ mN (xs:=[.bool w]) rfl (by simp[gx]) (tN (.inr ⟨_,rfl⟩)) (by decide) hd ?_
  simp only[sz,simprocAttr,gx,hU]
  exact ⟨fun _=>True,_,rfl,.inl ⟨0,rfl,trivial,by simp[sx]⟩⟩
 obtain ⟨r,h1,h2⟩:=key
 rw[h1,sY h2]
theorem B7 {d:Nat}{g:G}{w:Nat}(hd:0<d):aU C0 d N.ay [.int .u64 (w:Int)] g=.val (jd N.am (.int .u64 (w:Int))):=by
 have key:∃r,aU C0 d N.ay [.int .u64 (w:Int)] g=.val r/\ClV N.am (.int .u64 (w:Int)) NoP 0 .nil r:=by
  rw[kH]
  refine fJ mL (xs:=[.int .u64 (w:Int)]) rfl (by simp[gf]) (tN (.inl ⟨_,_,rfl⟩)) (by decide) hd ?_
  simp only[sz,simprocAttr,gf,hZ]
  exact ⟨fun _=>True,_,rfl,.inl ⟨0,rfl,trivial,by simp[sx]⟩⟩
 obtain ⟨r,h1,h2⟩:=key
 rw[h1,sY h2]
theorem zl {d:Nat}{g:G}{w:Int}(hd:0<d):aU C0 d N.az [.int .i64 w] g=.val (jd N.aq (.int .i64 w)):=by
 have key:∃r,aU C0 d N.az [.int .i64 w] g=.val r/\ClV N.aq (.int .i64 w) NoP 0 .nil r:=by
  rw[jn]
  refine fJ kG (xs:=[.int .i64 w]) rfl (by simp[eg]) (tN (.inl ⟨_,_,rfl⟩)) (by decide) hd ?_
  simp only[sz,simprocAttr,eg,fC]
  exact ⟨fun _=>True,_,rfl,.inl ⟨0,rfl,trivial,by simp[sx]⟩⟩
 obtain ⟨r,h1,h2⟩:=key
 rw[h1,sY h2]
theorem AJ (d:Nat)(a b w:AV)(g:G):cg C0 (I C0) d (jd N.aa w) [a,b] g=orF ((I C0).call d N.aa [a,b,.tptr 0 1 [[w]] 0 0] g):=by kernel_rfl
theorem AA (d:Nat)(a b w:AV)(g:G):cg C0 (I C0) d (jd N.am w) [a,b] g=orF ((I C0).call d N.am [a,b,.tptr 0 1 [[w]] 0 0] g):=by kernel_rfl
theorem wL (d:Nat)(a b w:AV)(g:G):cg C0 (I C0) d (jd N.aq w) [a,b] g=orF ((I C0).call d N.aq [a,b,.tptr 0 1 [[w]] 0 0] g):=by kernel_rfl
theorem tp {C:Cfg}{d f:Nat}{l:List AV}{g:G}{r:AV}(h:((I C).call d f l g).sat fun v g'=>v=r/\g'=g):orF ((I C).call d f l g)=.upd r g:=by
 cases hc:(I C).call d f l g with
 | fail=>rw[hc] at h;exact h.elim
 | ok v g'=>rw[hc] at h;rw[show v=r from h.1,show g'=g from h.2];rfl
theorem qo {d:Nat}{g:G}{w x:Bool}{e:Int}:cg C0 (I C0) d (jd N.aa (.bool w)) [.bool x,.int .i64 e] g=.upd (.bool (decide (x=w)&&decide (e=0))) g:=by
 rw[AJ]
 refine tp (fE lG (by simp[eN]) ?_)
 have eqb:Ah false .bool (.bool x) (.bool w)=.val (.bool (decide (x=w))):=by cases x<;>cases w<;>rfl
 simp only[sz,simprocAttr,eN,cw,jD,eqb]
 by_cases h:x=w
 ·simp only[sz,simprocAttr,decide_eq_true h,Bool.true_and]
 ·simp only[sz,simprocAttr,decide_eq_false h,Bool.false_and]
theorem AK {d:Nat}{g:G}{w x:Nat}{e:Int}:cg C0 (I C0) d (jd N.am (.int .u64 (w:Int))) [.int .u64 (x:Int),.int .i64 e] g=.upd (.bool (decide (x=w)&&decide (e=0))) g:=by
 rw[AA]
 refine tp (fE lU (by simp[eO]) ?_)
 simp only[sz,simprocAttr,eO,cw,jD]
 by_cases h:x=w
 ·have h':(x:Int)=(w:Int):=by omega
  simp only[sz,simprocAttr,h',decide_eq_true h,Bool.true_and]
 ·have h':¬(x:Int)=(w:Int):=by omega
  simp only[sz,simprocAttr,h',decide_eq_false h,Bool.false_and]
theorem wT {d:Nat}{g:G}{w e:Int}{x:Nat}:cg C0 (I C0) d (jd N.aq (.int .i64 w)) [.int .u64 (x:Int),.int .i64 e] g=.upd (.bool (decide (x=0)&&decide (e=w))) g:=by
 rw[wL]
 refine tp (fE jr (by simp[dx]) ?_)
 simp only[sz,simprocAttr,dx,cw,jD]
 by_cases h:x=0
 ·have h':(x:Int)=0:=by omega
  simp only[sz,simprocAttr,h',decide_eq_true h,Bool.true_and,cw]
 ·have h':¬(x:Int)=0:=by omega
  simp only[sz,simprocAttr,h',decide_eq_false h,Bool.false_and]
theorem el (v:Nat):Bt (2 ^ v)=fun x=>x=v:=funext fun x=>propext (by rw[Bt,Nat.testBit_two_pow,decide_eq_true_iff];exact eq_comm)
theorem B2 (p:List Nat)(v:Nat):Bt (Par p v)=fun u=>Eg p u v:=rfl
theorem vK {p:List Nat}(hp:∀x∈p,x<2 ^ p.length)(ha:S.aG p=true)(v:Nat):¬Eg p v v:=fun h=>by
 have:=p8 hp ha v v h
 omega
theorem py {p:List Nat}(hp:∀x∈p,x<2 ^ p.length)(ha:S.aG p=true){v y:Nat}(hv:v<p.length)(hy:∀u,Bt y u->¬Bt (S.dn p (2 ^ v) p.length) u):Apt p (2 ^ v) y (Par p v):=by
 intro u hu hr
 rw[el,B2] at hr
 have hd:=y8 (p8 hp ha) hr
 exact hy u hu ((Bd hp (Nat.pow_lt_pow_right (by decide) hv) u).2 ⟨v,by rw[Nat.testBit_two_pow,decide_eq_true_iff],hd⟩)
theorem BO:∀n:Nat,n<=8->∀s:Nat,s<2 ^ n->∀v:Nat,v<n->s.testBit v=false->S.ae s<n:=by
 have key:∀n:Nat,n<9->∀v:Nat,v<n->∀s:Nat,s<256->s<2 ^ n->s.testBit v=false->S.ae s<n:=by decide +kernel
 intro n h8 s hs v hv hb
 have:2 ^ n<=2 ^ 8:=Nat.pow_le_pow_right (by decide) h8
 exact key n (by omega) v hv s (by omega) hs hb
theorem qx {p:List Nat}{x y s:Nat}(h:nl p x y s):nl p y x s:=by
 obtain ⟨h1,h2,h3⟩:=h
 have h2':=h2
 rw[Nat.or_comm] at h2'
 refine ⟨h1,h2',AO ?_ h3⟩
 have:=(eI.1 h2)
 exact eI.2 fun v hv=>this v ⟨hv.2,x4.2 (.inr hv.1)⟩
theorem z9 {p:List Nat}{x y s:Nat}(h:LsP p x y s):LsP p y x s:=⟨qx h.1,h.2.1,fun s' hs'=>h.2.2 s' (qx hs')⟩
theorem kV {n a b s:Nat}:s &&& (2 ^ a ||| 2 ^ b)=0↔s.testBit a=false/\s.testBit b=false:=by
 rw[eI]
 have e:∀v,Bt (2 ^ a ||| 2 ^ b) v↔v=a\/v=b:=fun v=>by
  rw[x4,el,el]
 constructor
 ·intro h
  refine ⟨?_,?_⟩<;>rw[<-Bool.not_eq_true]<;>intro hb
  ·exact h a ⟨hb,(e a).2 (.inl rfl)⟩
  ·exact h b ⟨hb,(e b).2 (.inr rfl)⟩
 ·rintro ⟨h1,h2⟩ v ⟨h3,h4⟩
  have h3:s.testBit v=true:=h3
  rcases (e v).1 h4 with rfl | rfl
  ·rw[h1] at h3;cases h3
  ·rw[h2] at h3;cases h3
theorem ua {p:List Nat}{x y:Nat}(h:Eg p x y\/Eg p y x):S.aK p x y=(0,false):=by
 refine za fun s hs=>?_
 exfalso
 obtain ⟨h1,h2,h3⟩:=hs
 obtain ⟨hx,hy⟩:=(kV (n:=p.length)).1 h2
 have hr:=AP (E:=Eg p) (Z:=Bt s) (x:=x) (y:=y) (fun h=>by have h:s.testBit x=true:=h;rw[hx] at h;cases h) (fun h=>by have h:s.testBit y=true:=h;rw[hy] at h;cases h) h
 refine h3 y ?_ ?_
 ·rw[el]
 ·rw[el];exact hr
theorem BU {p:List Nat}(hG:GOk p){x y:Nat}(hx:x<p.length)(hy:y<p.length)(hxy:x≠y)(h1:¬Eg p x y)(h2:¬Eg p y x):∃s,LsP p x y s:=by
 have one:∀a b,a<p.length->b<p.length->a≠b->¬Eg p b a->¬Ds (Eg p) a b->nl p a b (Par p a):=by
  intro a b ha hb hab he hd
  refine ⟨jz hG.hp,(kV (n:=p.length)).2 ⟨?_,?_⟩,?_⟩
  ·rw[<-Bool.not_eq_true];exact vK hG.hp hG.ac a
  ·rw[<-Bool.not_eq_true];exact he
  ·refine py hG.hp hG.ac ha fun u hu hdn=>?_
   rw[el] at hu
   have hu:u=b:=hu
   subst hu
   obtain ⟨w,hw,hwd⟩:=(Bd hG.hp (Nat.pow_lt_pow_right (by decide) ha) u).1 hdn
   rw[Nat.testBit_two_pow,decide_eq_true_iff] at hw
   subst hw
   exact hd hwd
 have hr:=p8 hG.hp hG.ac
 have ex:∃s,nl p x y s:=by
  by_cases hd:Ds (Eg p) x y
  ·refine ⟨Par p y,qx (one y x hy hx (Ne.symm hxy) h1 fun hd2=>?_)⟩
   have a:=hd.rank hr
   have b:=hd2.rank hr
   rcases a with a | a
   ·exact hxy a
   ·rcases b with b | b
    ·exact hxy b.symm
    ·omega
  ·exact ⟨Par p x,one x y hx hy hxy h2 hd⟩
 have lw:∀(P:Nat->Prop),(∃n,P n)->∃n,P n/\∀m,P m->n<=m:=by
  intro P ⟨n,hn⟩
  induction n using Nat.strongRecOn with
  | _ n ih =>
   by_cases h:∃m,m<n/\P m
   ·obtain ⟨m,hm,hp⟩:=h
    exact ih m hm hp
   ·exact ⟨n,hn,fun m hm=>by
     rcases Nat.lt_or_ge m n with h' | h'
     ·exact absurd ⟨m,h',hm⟩ h
     ·exact h'⟩
 obtain ⟨k,⟨s0,hs0,hk0⟩,hmin⟩:=lw (fun k=>∃s,nl p x y s/\S.ae s=k) (by obtain ⟨s,hs⟩:=ex;exact ⟨_,s,hs,rfl⟩)
 obtain ⟨s,⟨hs,hk⟩,hsm⟩:=lw (fun s=>nl p x y s/\S.ae s=k) ⟨s0,hs0,hk0⟩
 refine ⟨s,hs,?_,fun s' hs'=>?_⟩
 ·exact BO p.length hG.l8 s hs.1 x hx ((kV (n:=p.length)).1 hs.2.1).1
 ·have:=hmin _ ⟨s',hs',rfl⟩
  rcases Nat.eq_or_lt_of_le this with h | h
  ·exact .inr ⟨by omega,hsm s' ⟨hs',h.symm⟩⟩
  ·exact .inl (by omega)
theorem oy {t:T}{g:G}{a:Nat}{xs:List Od}{w:AV}(h:tat t a=jd N.aa w):SO.foot C0 t g (.dyn (.t a) xs)=aO:=by
 show (match tat t a with
  | .clo f first cap=>af ((C0.ext f).isSome || C0.iso f) (ah ((first++(dC t xs++cap)).flatMap (au g.h ay))) aO
  | _=>aO)=_
 rw[h]
 kernel_rfl
theorem zw {t:T}{g:G}{a:Nat}{xs:List Od}{w:AV}(h:tat t a=jd N.am w):SO.foot C0 t g (.dyn (.t a) xs)=aO:=by
 show (match tat t a with
  | .clo f first cap=>af ((C0.ext f).isSome || C0.iso f) (ah ((first++(dC t xs++cap)).flatMap (au g.h ay))) aO
  | _=>aO)=_
 rw[h]
 kernel_rfl
def LLc (kk:Nat)(pv:AV)(m:Nat):List (Nat×AV):=[(5,pv),(6,.int .u64 (m:Int)),(1,.int .u8 (kk:Int))]
section
variable {d m kk:Nat}{p:List Nat}{pv:AV}
theorem yK {Q:QT}{t:T}{g:G}{s i:Nat}(hp:SlR NoP 0 .nil p pv)(n8:p.length<=8)(hs:s<2 ^ p.length)
  (ht:St t ((7,.int .i64 (i:Int))::(26,.int .i64 (p.length:Int))::(27,.int .i64 (i:Int))::LLc kk pv m)) (h8:tat t 8=.int .u64 (s:Int)) (h34:tat t 34=.int .i64 0) (h33:tat t 33=.int .i64 (p.length:Int))
  (fin:∀t,St t ((8,.int .u64 (S.dn p s p.length:Int))::(7,.int .i64 (i:Int))::(26,.int .i64 (p.length:Int))::(27,.int .i64 (i:Int))::LLc kk pv m)->Q (.exit 2) t [] g):wpL (wp C0 d none bX) Q t [] g:=by
 have h256:=iZ n8
 have lv:=hp.len
 have rp:∀h,aw h 1 pv=some (p.map cu):=fun h=>(hp.tree (h':=h) (Nat.le_refl 0):SlR NoP 0 h p pv).nats
 have hlt:∀x∈p,x<18446744073709551616:=fK hp
 simp only[bX,dy]
 refine cp (m:=p.length) (by omega) (fun j t df g'=>df=[]/\g'=g/\St t ((8,.int .u64 (S.dn p s j:Int))::(7,.int .i64 (i:Int))::(26,.int .i64 (p.length:Int))::(27,.int .i64 (i:Int))::LLc kk pv m)) ⟨rfl,rfl,h8,ht⟩ h34 h33 (by decide)
  (by rintro j t df g v s (rfl | rfl | rfl) ⟨a1,a2,⟨b1,b2,b3,b4,b5,b6,b7,-⟩⟩<;>exact ⟨a1,a2,by simp[St,LLc,sx,b1,b2,b3,b4,b5,b6,b7]⟩) ?_ ?_
 ·rintro j t df g' hj ⟨rfl,rfl,h8,h7,h26,h27,h5,h6,h1,-⟩ h34 h33
  have hu:=u9 hs j
  simp only[sz,simprocAttr,h5,lv]
  simp only[dE,dI]
  refine cp (m:=p.length) (by omega) (fun u t df g2=>df=[]/\g2=g'/\St t ((34,.int .i64 (j:Int))::(33,.int .i64 (p.length:Int))::(36,pv)::(8,.int .u64 (S.ak p (S.dn p s j) u:Int))::(7,.int .i64 (i:Int))::(26,.int .i64 (p.length:Int))::(27,.int .i64 (i:Int))::LLc kk pv m)) ⟨rfl,rfl,by simp[St,LLc,sx,h1,h5,h6,h7,h26,h27,h33,h34,S.ak,h8]⟩ (by simp[sx]) (by simp[sx]) (by decide)
   (by rintro j t df g v s (rfl | rfl | rfl) ⟨a1,a2,⟨b1,b2,b3,b4,b5,b6,b7,b8,b9,b10,-⟩⟩<;>exact ⟨a1,a2,by simp[St,LLc,sx,b1,b2,b3,b4,b5,b6,b7,b8,b9,b10]⟩) ?_ ?_
  ·rintro u t df g2 hu2 ⟨rfl,rfl,h34,h33,h36,h8,h7,h26,h27,h5,h6,h1,-⟩ h38 h37
   have hr:=oB hu u (by omega)
   obtain ⟨x,hx,-,hm⟩:=fS hu2
   have hpi:Par p u=x:=by simp[Par,hx]
   have hxl:=hlt x hm
   have z1:u<(p.map cu).length:=by simpa using hu2
   have z2:(p.map cu)[u]?=some (cu x):=by rw[List.getElem?_map,hx];rfl
   have hsh:aT .shl (.int .u64 1) (.int .i64 (u:Int))=.val (.int .u64 ((2 ^ u:Nat):Int)):=by rw[aK,cm (by omega)]
   have h2u:(2:Nat) ^ u<=2 ^ 8:=Nat.pow_le_pow_right (by decide) (by omega)
   have hrl:S.ak p (S.dn p s j) u<18446744073709551616:=by omega
   by_cases c:((x &&& S.ak p (S.dn p s j) u:Nat):Int)=0
   ·have es:S.ak p (S.dn p s j) (u+1)=S.ak p (S.dn p s j) u:=by rw[S.ak,hpi,if_pos (by omega)]
    simp only[sz,simprocAttr,h8,h36,h38,rp,z1,z2,cu,da _ _ hxl hrl,c,es]
    exact ⟨by simp[St,LLc,sx,h1,h5,h6,h7,h8,h26,h27,h33,h34,h36],h37⟩
   ·have es:S.ak p (S.dn p s j) (u+1)=S.ak p (S.dn p s j) u ||| 2 ^ u:=by rw[S.ak,hpi,if_neg (by omega)]
    simp only[sz,simprocAttr,h8,h36,h38,rp,z1,z2,cu,da _ _ hxl hrl,c,es,hsh,g7 _ (2 ^ u) hrl (by omega)]
    exact ⟨by simp[St,LLc,sx,h1,h5,h6,h7,h26,h27,h33,h34,h36],h37⟩
  ·rintro t df g2 ⟨rfl,rfl,h34,h33,h36,h8,h7,h26,h27,h5,h6,h1,-⟩
   simp only[sz,simprocAttr]
   exact ⟨⟨h8,h7,h26,h27,h5,h6,h1,trivial⟩,h34,h33⟩
 ·rintro t df g' ⟨rfl,rfl,ht⟩
  exact fin t ht
theorem xE {Q:QT}{t:T}{g:G}{i D:Nat}(hd:0<d)(hp:SlR NoP 0 .nil p pv)(hG:GOk p)(hm:m=2 ^ p.length - 1)(hi:i<p.length)(hD:D=S.dn p (2 ^ i) p.length)
  (ht:St t ((8,.int .u64 (D:Int))::(7,.int .i64 (i:Int))::(26,.int .i64 (p.length:Int))::(27,.int .i64 (i:Int))::LLc kk pv m))
  (fin:∀t g',St t ((26,.int .i64 (p.length:Int))::(27,.int .i64 (i:Int))::LLc kk pv m)->Q .norm t [] g'):wp C0 d none bS Q t [] g:=by
 have n8:=hG.l8
 have h256:=iZ n8
 have hp1:1<=2 ^ p.length:=Nat.one_le_two_pow
 have lv:=hp.len
 have rp:∀h,aw h 1 pv=some (p.map cu):=fun h=>(hp.tree (h':=h) (Nat.le_refl 0):SlR NoP 0 h p pv).nats
 obtain ⟨x,hx,-,hxm⟩:=fS hi
 have hpi:Par p i=x:=by simp[Par,hx]
 have hxl:=hG.hp x hxm
 have z1:i<(p.map cu).length:=by simpa using hi
 have z2:(p.map cu)[i]?=some (cu x):=by rw[List.getElem?_map,hx];rfl
 have hil:(2:Nat) ^ i<2 ^ p.length:=Nat.pow_lt_pow_right (by decide) hi
 have hDl:D<2 ^ p.length:=by rw[hD];exact u9 hil _
 obtain ⟨Y1,hY1⟩:∃Y,Y=m ^^^ m &&& D:=⟨_,rfl⟩
 obtain ⟨Y,hY⟩:∃Y,Y=Y1 ^^^ Y1 &&& x:=⟨_,rfl⟩
 have lY1:Y1<2 ^ p.length:=by rw[hY1];exact qJ (by omega)
 have lY:Y<2 ^ p.length:=by rw[hY];exact qJ lY1
 have yD:∀u,Bt Y u->¬Bt D u/\¬Bt x u:=fun u hu=>by
  rw[hY] at hu
  obtain ⟨h1,h2⟩:=qw.1 hu
  rw[hY1] at h1
  exact ⟨(qw.1 h1).2,h2⟩
 have hself:Bt D i:=by
  rw[hD]
  exact qq _ i (by rw[Nat.testBit_two_pow,decide_eq_true_iff])
 have a1:Y &&& 2 ^ i=0:=eI.2 fun u h=>by
  have h2:=h.2
  rw[el] at h2
  have h2:u=i:=h2
  subst h2
  exact (yD u h.1).1 hself
 have a2:x &&& 2 ^ i=0:=eI.2 fun u h=>by
  have h2:=h.2
  rw[el] at h2
  have h2:u=i:=h2
  subst h2
  have:=h.1
  rw[<-hpi] at this
  exact vK hG.hp hG.ac u this
 have a3:x &&& Y=0:=eI.2 fun u h=>(yD u h.2).2 h.1
 have hap:S.aH p (2 ^ i) Y x=true:=by
  refine (oC hG hil lY hxl a1 a2 a3).2 ?_
  rw[<-hpi]
  exact py hG.hp hG.ac hi fun u hu=>by rw[<-hD];exact (yD u hu).1
 have hr7:=lO hG hil lY hxl a1 a2 a3
 have d1:=gg m D (by omega) (by omega)
 rw[<-hY1] at d1
 have d2:=gg Y1 x (by omega) (by omega)
 rw[<-hY] at d2
 obtain ⟨X,hX⟩:∃X,X=2 ^ i:=⟨_,rfl⟩
 have s1:aT .shl (.int .u64 1) (.int .i64 (i:Int))=.val (.int .u64 (X:Int)):=by rw[aK,cm (by omega),hX]
 rw[<-hX] at hap hr7 hil
 have kI:=fun g=>tT (d:=d) (g:=g) (w:=true) hd
 have kA:=fun g=>mf (d:=d) (g:=g) (xs:=X) (ys:=Y) (zs:=x) hd hp (by omega) (by omega) (by omega)
 rw[hap,hr7] at kA
 have kD:∀g,cg C0 (I C0) d (jd N.aa (.bool true)) [.bool true,.int .i64 0] g=.upd (.bool true) g:=fun g=>qo (w:=true) (x:=true) (e:=0)
 obtain ⟨h8,h7,h26,h27,h5,h6,h1,-⟩:=ht
 simp only[sz,simprocAttr,sf,bS,h5,h6,h7,h8,rp,z1,z2,cu,s1,d1,d2,kI,kA,kD,eF,dt]
 rw[oy (w:=.bool true) (by simp[sx])]
 refine ⟨?_,?_⟩
 ·simp only[List.reverse_cons,List.reverse_nil,List.nil_append,List.cons_append]
  exact bU [false,false,false,false,false,false,false,false,false,false,false,false,false,false,false,false,false,false,false,false,false] [] (by simp[All2,ah,aF,aO]) (by decide) (by simp)
 exact fin _ _ (by simp[St,LLc,sx,h1,h5,h6,h26,h27])
end
end
end Hx
end
section
namespace Hx
open Go
noncomputable section
section
variable {d m kk:Nat}{p:List Nat}{pv:AV}
theorem yW {Q:QT}{t:T}{g:G}(hd:0<d)(hp:SlR NoP 0 .nil p pv)(hG:GOk p)(hm:m=2 ^ p.length - 1)(ht:St t (LLc kk pv m))(h27:tat t 27=.int .i64 0)(h26:tat t 26=.int .i64 (p.length:Int))
  (fin:∀t g',St t (LLc kk pv m)->Q (.exit 0) t [] g'):wpL (wp C0 d none b_) Q t [] g:=by
 have n8:=hG.l8
 have h256:=iZ n8
 have lv:=hp.len
 simp only[b_,dB]
 refine cp (m:=p.length) (by omega) (fun j t df g'=>df=[]/\St t (LLc kk pv m)) ⟨rfl,ht⟩ h27 h26 (by decide)
  (by rintro j t df g v s (rfl | rfl | rfl) ⟨a1,⟨b1,b2,b3,-⟩⟩<;>exact ⟨a1,by simp[St,LLc,sx,b1,b2,b3]⟩) ?_ ?_
 ·rintro j t df g' hj ⟨rfl,h5,h6,h1,-⟩ h27 h26
  have hil:(2:Nat) ^ j<2 ^ p.length:=Nat.pow_lt_pow_right (by decide) hj
  have s1:aT .shl (.int .u64 1) (.int .i64 (j:Int))=.val (.int .u64 ((2 ^ j:Nat):Int)):=by rw[aK,cm (by omega)]
  simp only[sz,simprocAttr,h27,h5,lv,s1]
  refine yK (kk:=kk) (m:=m) (i:=j) hp n8 hil (by simp[St,LLc,sx,h1,h5,h6,h26,h27]) (by simp[sx]) (by simp[sx]) (by simp[sx]) ?_
  rintro t ht
  simp only[sz,simprocAttr]
  refine xE hd hp hG hm hj rfl ht ?_
  rintro t g2 ⟨h26,h27,ht⟩
  simp only[sz,simprocAttr]
  exact ⟨ht,h27,h26⟩
 ·rintro t df g' ⟨rfl,ht⟩
  exact fin t g' ht
theorem xR {Q:QT}{t:T}{g:G}{a b z:Nat}(hd:0<d)(hp:SlR NoP 0 .nil p pv)(hG:GOk p)(hm:m=2 ^ p.length - 1)(ha:a<p.length)(hb:b<p.length)(hab:a≠b)(hz:LsP p a b z)
  (ht:St t ((11,.int .i64 (a:Int))::(12,.int .i64 (b:Int))::(13,.int .u64 (z:Int))::LLc kk pv m)) (h159:tat t 159=.int .u64 0) (h158:tat t 158=.int .u64 ((2 ^ p.length:Nat):Int))
  (fin:∀t g',Q (.exit 6) t [] g'):wpL (wp C0 d none bY) Q t [] g:=by
 have n8:=hG.l8
 have h256:=iZ n8
 have hp1:1<=2 ^ p.length:=Nat.one_le_two_pow
 obtain ⟨M,hMe⟩:∃M,M=2 ^ p.length:=⟨_,rfl⟩
 rw[<-hMe] at h158
 refine nV (fun n t df g=>df=[]/\∃s:Nat,n=M - s/\s<=M/\St t ((159,.int .u64 (s:Int))::(158,.int .u64 (M:Int))::(11,.int .i64 (a:Int))::(12,.int .i64 (b:Int))::(13,.int .u64 (z:Int))::LLc kk pv m)) M ⟨rfl,0,by omega,by omega,h159,h158,ht⟩ ?_
 rintro n t df g ⟨rfl,s,rfl,hs,h159,h158,h11,h12,h13,h5,h6,h1,-⟩
 simp only[bY]
 by_cases hlt:s<M
 ·have c0:(s:Int)<(M:Int):=by omega
  have ws:IntKind.wrap .u64 ((s:Int)+1)=((s+1:Nat):Int):=by rw[eD (by omega) (by omega)];omega
  have an:aT .andNot (.int .u64 (s:Int)) (.int .u64 (m:Int))=.val (.int .u64 0):=by
   rw[gg s m (by omega) (by omega)]
   have:s ^^^ (s &&& m)=0:=by
    rw[hm,Nat.and_two_pow_sub_one_of_lt_two_pow (by omega),Nat.xor_self]
   rw[this];rfl
  have ss:s<256:=by omega
  have ss':s<18446744073709551616:=by omega
  have zz:z<256:=by have:=hz.1.1;omega
  have kO1:=fun g=>xV (d:=d) (x:=s) (g:=g) hd ss
  have kO2:=fun g=>xV (d:=d) (x:=z) (g:=g) hd zz
  have foots:∀(t:T) (g:G) (fs:List Foot),All2 (fun (f:Foot) (w:Bool)=>f.lk.sr=[]/\(w=false->f.wr=[])) fs [false,false,false,false,false,false,false,false,false,false,false,false,false,false,false,false,false,false,false,false,false,false,false,false,false,false,false,false,false,false,false,false,false,false,false,false,false,false,false]->gR [0,0,3,7,15,31,31,127,255,511,1023,2047,4095,4095,16383,32767,65535,131071,262143,524287,1048575,524287,4194303,8388607,16777215,33554431,67108863,67108863,67108863,335544319,67108863,1140850687,67108863,8589934591,17179869183,17179869183,68719476735,137438953471,274877906943] fs=true:=fun _ _ fs h=>bU [false,false,false,false,false,false,false,false,false,false,false,false,false,false,false,false,false,false,false,false,false,false,false,false,false,false,false,false,false,false,false,false,false,false,false,false,false,false,false] [] h (by decide) (by simp)
  cases ca:s.testBit a with
  | true =>
   simp only[sz,simprocAttr,sf,h159,h158,h6,h11,c0,an,aP _ _ _ ss',jc ss',io,ca,ws]
   refine ⟨?_,_,by omega,s+1,rfl,by omega,by simp[St,LLc,sx,h1,h5,h6,h11,h12,h13,h158]⟩
   simp only[List.reverse_cons,List.reverse_nil,List.nil_append,List.cons_append]
   exact foots t g _ (by simp[All2,ah,aF])
  | false =>
   cases cb:s.testBit b with
   | true =>
    simp only[sz,simprocAttr,sf,h159,h158,h6,h11,h12,c0,an,aP _ _ _ ss',jc ss',io,ca,cb,ws]
    refine ⟨?_,_,by omega,s+1,rfl,by omega,by simp[St,LLc,sx,h1,h5,h6,h11,h12,h13,h158]⟩
    simp only[List.reverse_cons,List.reverse_nil,List.nil_append,List.cons_append]
    exact foots t g _ (by simp[All2,ah,aF])
   | false =>
    by_cases c3:S.ae s<S.ae z
    ·have c3':((S.ae s:Nat):Int)<((S.ae z:Nat):Int):=by omega
     have hal:(2:Nat) ^ a<2 ^ p.length:=Nat.pow_lt_pow_right (by decide) ha
     have hbl:(2:Nat) ^ b<2 ^ p.length:=Nat.pow_lt_pow_right (by decide) hb
     have e1:2 ^ b &&& 2 ^ a=0:=eI.2 fun v h=>by
      rw[el,el] at h
      obtain ⟨h1,h2⟩:=h
      have h1:v=b:=h1
      have h2:v=a:=h2
      omega
     have e2:s &&& 2 ^ a=0:=eI.2 fun v h=>by
      have h2:=h.2
      rw[el] at h2
      have h2:v=a:=h2
      subst h2
      have:=h.1
      rw[Bt,ca] at this;cases this
     have e3:s &&& 2 ^ b=0:=eI.2 fun v h=>by
      have h2:=h.2
      rw[el] at h2
      have h2:v=b:=h2
      subst h2
      have:=h.1
      rw[Bt,cb] at this;cases this
     have r0:=lO hG hal hbl (show s<2 ^ p.length by omega) e1 e2 e3
     have hap:S.aH p (2 ^ a) (2 ^ b) s=false:=by
      cases hq:S.aH p (2 ^ a) (2 ^ b) s with
      | false=>rfl
      | true =>
       have h:=(oC hG hal hbl (show s<2 ^ p.length by omega) e1 e2 e3).1 hq
       have:=hz.2.2 s ⟨by omega,(kV (n:=p.length)).2 ⟨ca,cb⟩,h⟩
       omega
     obtain ⟨A,hA⟩:∃A,A=2 ^ a:=⟨_,rfl⟩
     obtain ⟨B,hB⟩:∃B,B=2 ^ b:=⟨_,rfl⟩
     have s1:aT .shl (.int .u64 1) (.int .i64 (a:Int))=.val (.int .u64 (A:Int)):=by rw[aK,cm (by omega),hA]
     have s2:aT .shl (.int .u64 1) (.int .i64 (b:Int))=.val (.int .u64 (B:Int)):=by rw[aK,cm (by omega),hB]
     rw[<-hA,<-hB] at hap r0
     rw[<-hA] at hal
     rw[<-hB] at hbl
     have kA:=fun g=>mf (d:=d) (g:=g) (xs:=A) (ys:=B) (zs:=s) hd hp (by omega) (by omega) (by omega)
     rw[hap,r0] at kA
     have kI:=fun g=>tT (d:=d) (g:=g) (w:=false) hd
     have kD:∀g,cg C0 (I C0) d (jd N.aa (.bool false)) [.bool false,.int .i64 0] g=.upd (.bool true) g:=fun g=>qo (w:=false) (x:=false) (e:=0)
     simp only[sz,simprocAttr,sf,h159,h158,h5,h6,h11,h12,h13,c0,an,aP _ _ _ ss',jc ss',io,ca,cb,ws,kO1,kO2,c3',s1,s2,kA,kI,kD,eF,dt,bp]
     rw[oy (w:=.bool false) (by simp[sx])]
     refine ⟨?_,_,by omega,s+1,rfl,by omega,by simp[St,LLc,sx,h1,h5,h6,h11,h12,h13,h158]⟩
     simp only[List.reverse_cons,List.reverse_nil,List.nil_append,List.cons_append]
     exact foots t g _ (by simp[All2,ah,aF,aO])
    ·have c3':¬((S.ae s:Nat):Int)<((S.ae z:Nat):Int):=by omega
     simp only[sz,simprocAttr,sf,h159,h158,h6,h11,h12,h13,c0,an,aP _ _ _ ss',jc ss',io,ca,cb,ws,kO1,kO2,c3',bp]
     refine ⟨?_,_,by omega,s+1,rfl,by omega,by simp[St,LLc,sx,h1,h5,h6,h11,h12,h13,h158]⟩
     simp only[List.reverse_cons,List.reverse_nil,List.nil_append,List.cons_append]
     exact foots t g _ (by simp[All2,ah,aF])
 ·have c0:¬(s:Int)<(M:Int):=by omega
  simp only[sz,simprocAttr,h159,h158,c0]
  exact fin _ _
end
end
end Hx
end
section
namespace Hx
open Go
noncomputable section
theorem sg {u v a b:Nat}:decide ((((u / 2 ^ b ||| v / 2 ^ a) &&& 1:Nat):Int)=1)=(u.testBit b || v.testBit a):=by
 have:=uj (s:=u / 2 ^ b ||| v / 2 ^ a) (v:=0)
 rw[Nat.pow_zero,Nat.div_one] at this
 rw[this,Nat.testBit_or,Nat.testBit_div_two_pow,Nat.testBit_div_two_pow,Nat.zero_add,Nat.zero_add]
theorem sM {p:List Nat}{a b:Nat}(hG:GOk p)(ha:a<p.length)(hb:b<p.length):S.au p.length (a:Int) (b:Int) 0=decide (a≠b):=by
 have:S.au p.length (a:Int) (b:Int) 0=S.am p.length [2 ^ a,2 ^ b,0] 0:=by
  rw[S.au,decide_eq_true (show (0:Int)<=(a:Int) by omega),decide_eq_true (show (0:Int)<=(b:Int) by omega),decide_eq_true (show (a:Int)<(p.length:Int) by omega),decide_eq_true (show (b:Int)<(p.length:Int) by omega)]
  rfl
 rw[this,Bool.eq_iff_iff,xM ha hb,decide_eq_true_iff]
section
variable {d m kk:Nat}{p:List Nat}{pv:AV}
theorem yj {t:T}{g:G}(hd:0<d)(hp:SlR NoP 0 .nil p pv)(hG:GOk p)(hm:m=2 ^ p.length - 1)(hk:kk<256)(ht:St t (LLc kk pv m)) :
  wp C0 d none bV (fnQ C0 d [SR.tm 4] fun v _=>v=.bool true) t [] g:=by
 have n8:=hG.l8
 have n1:=hG.l1
 have h256:=iZ n8
 have hp1:1<=2 ^ p.length:=Nat.one_le_two_pow
 have lv:=hp.len
 have hlt:∀x∈p,x<18446744073709551616:=fK hp
 have rp:∀h,aw h 1 pv=some (p.map cu):=fun h=>(hp.tree (h':=h) (Nat.le_refl 0):SlR NoP 0 h p pv).nats
 obtain ⟨a,hae⟩:∃a,a=kk % p.length:=⟨_,rfl⟩
 obtain ⟨b,hbe⟩:∃b,b=kk / 8 % p.length:=⟨_,rfl⟩
 have ha:a<p.length:=by rw[hae];exact Nat.mod_lt _ (by omega)
 have hb:b<p.length:=by rw[hbe];exact Nat.mod_lt _ (by omega)
 have r1:aT .rem (.int .i64 (kk:Int)) (.int .i64 (p.length:Int))=.val (.int .i64 (a:Int)):=by
  rw[qj .i64 (by omega) (by omega),hae];rfl
 have w1:IntKind.wrap .i64 (kk:Int)=(kk:Int):=iH (by omega) (by omega)
 have q1:aT .quo (.int .u8 (kk:Int)) (.int .u8 8)=.val (.int .u8 ((kk / 8:Nat):Int)):=by
  rw[Az .u8 (by omega) (by decide)]
  have:IntKind.wrap .u8 ((kk:Int) / 8)=((kk / 8:Nat):Int):=by
   show ((kk:Int) / 8) % 256=_
   omega
  rw[this]
 have w2:IntKind.wrap .i64 ((kk / 8:Nat):Int)=((kk / 8:Nat):Int):=iH (by omega) (by omega)
 have r2:aT .rem (.int .i64 ((kk / 8:Nat):Int)) (.int .i64 (p.length:Int))=.val (.int .i64 (b:Int)):=by
  rw[qj .i64 (by omega) (by omega),hbe];rfl
 clear hae hbe
 obtain ⟨h5,h6,h1,-⟩:=ht
 unfold bV
 refine oP (P:=fun t' df' g'=>df'=[]/\St t' ((11,.int .i64 (a:Int))::(12,.int .i64 (b:Int))::LLc kk pv m)) ?_ ?_
 ·simp only[sz,simprocAttr,sf,h1,h5,lv,w1,r1,q1,w2,r2]
  simp[St,LLc,sx,h1,h5,h6]
 clear h1 h5 h6
 rintro t df g1 ⟨rfl,h11,h12,h5,h6,h1,-⟩
 have kL:=fun g=>rV (d:=d) (g:=g) (x:=(a:Int)) (y:=(b:Int)) hd hp
 have kL2:=fun g=>rV (d:=d) (g:=g) (x:=(b:Int)) (y:=(a:Int)) hd hp
 have hok:S.aB p=true:=gV.2 hG
 by_cases hab:a=b
 ·have hT:S.au p.length (a:Int) (b:Int) 0=false:=by rw[sM hG ha hb];simp[hab]
  have e1:S.ah p (a:Int) (b:Int)=(0,2):=by simp[S.ah,hok,hT]
  rw[e1] at kL
  have kF:=fun g=>zl (d:=d) (g:=g) (w:=2) hd
  have kD:∀g,cg C0 (I C0) d (jd N.aq (.int .i64 2)) [.int .u64 0,.int .i64 2] g=.upd (.bool true) g:=fun g=>wT (w:=2) (x:=0) (e:=2)
  have hab':(a:Int)=(b:Int):=by omega
  have kL':∀g,aU C0 d N.ae [pv,.int .i64 (b:Int),.int .i64 (b:Int)] g=.val (.tup [.int .u64 0,.int .i64 2]):=by
   rw[hab] at kL;exact kL
  simp only[sz,simprocAttr,h5,h11,h12,hab',kL',kF,kD]
 have hab':¬(a:Int)=(b:Int):=by omega
 refine oP (P:=fun t' df' g'=>df'=[]/\St t' ((11,.int .i64 (a:Int))::(12,.int .i64 (b:Int))::LLc kk pv m)) ?_ ?_
 ·simp only[sz,simprocAttr,h11,h12,hab']
  simp[St,LLc,sx,h1,h5,h6,h11,h12]
 clear h1 h5 h6 h11 h12
 rintro t df g2 ⟨rfl,h11,h12,h5,h6,h1,-⟩
 refine uV (P:=fun t' df' g'=>df'=[]/\St t' ((13,.int .u64 ((S.ah p a b).1:Int))::(14,.int .i64 (S.ah p a b).2)::(11,.int .i64 (a:Int))::(12,.int .i64 (b:Int))::LLc kk pv m)) ?_ ?_
 ·simp only[sz,simprocAttr,h5,h11,h12,kL]
  simp[St,LLc,sx,h1,h5,h6,h11,h12]
 clear h1 h5 h6 h11 h12
 rintro t df g3 ⟨rfl,h13,h14,h11,h12,h5,h6,h1,-⟩
 have hpa:p[a]?=some (Par p a):=by simp[Par,List.getElem?_eq_getElem ha]
 have hpb:p[b]?=some (Par p b):=by simp[Par,List.getElem?_eq_getElem hb]
 have la:=hlt _ (List.mem_of_getElem? hpa)
 have lb:=hlt _ (List.mem_of_getElem? hpb)
 have za1:a<(p.map cu).length:=by simpa using ha
 have za2:(p.map cu)[a]?=some (cu (Par p a)):=by rw[List.getElem?_map,hpa];rfl
 have zb1:b<(p.map cu).length:=by simpa using hb
 have zb2:(p.map cu)[b]?=some (cu (Par p b)):=by rw[List.getElem?_map,hpb];rfl
 have sa:=aP .i64 (Par p a) b la
 have sb:=aP .i64 (Par p b) a lb
 have lda:Par p a / 2 ^ b<18446744073709551616:=Nat.lt_of_le_of_lt (Nat.div_le_self _ _) la
 have ldb:Par p b / 2 ^ a<18446744073709551616:=Nat.lt_of_le_of_lt (Nat.div_le_self _ _) lb
 have so:=g7 _ _ lda ldb
 have sn:aT .and (.int .u64 ((Par p a / 2 ^ b ||| Par p b / 2 ^ a:Nat):Int)) (.int .u64 1)=.val (.int .u64 ((((Par p a / 2 ^ b ||| Par p b / 2 ^ a) &&& 1:Nat)):Int)):=da _ 1 (uI lda ldb) (by decide)
 have hT:S.au p.length (a:Int) (b:Int) 0=true:=by rw[sM hG ha hb];simp[hab]
 have hT2:S.au p.length (b:Int) (a:Int) 0=true:=by rw[sM hG hb ha];simp[Ne.symm hab]
 cases hj:(Par p a).testBit b || (Par p b).testBit a with
 | true =>
  have hadj:Eg p a b\/Eg p b a:=by
   rw[Bool.or_eq_true] at hj
   exact hj.symm
  have e1:S.ah p (a:Int) (b:Int)=(0,4):=by simp[S.ah,hok,hT,ua hadj]
  rw[e1] at h13 h14
  simp only[sz,simprocAttr,sf,h5,h11,h12,h13,h14,rp,za1,za2,zb1,zb2,cu,sa,sb,so,sn,sg,hj]
 | false =>
  have hnadj:¬(Eg p a b\/Eg p b a):=fun h=>by
   have:((Par p a).testBit b || (Par p b).testBit a)=true:=by rw[Bool.or_eq_true];exact h.symm
   rw[hj] at this;cases this
  obtain ⟨z,hz⟩:=BU hG ha hb hab (fun h=>hnadj (.inl h)) (fun h=>hnadj (.inr h))
  have e1:S.ah p (a:Int) (b:Int)=(z,0):=by simp[S.ah,hok,hT,qv hz]
  have e2:S.ah p (b:Int) (a:Int)=(z,0):=by simp[S.ah,hok,hT2,qv (z9 hz)]
  rw[e1] at h13 h14
  rw[e2] at kL2
  clear kL
  refine oP (P:=fun t' df' g'=>df'=[]/\St t' ((11,.int .i64 (a:Int))::(12,.int .i64 (b:Int))::(13,.int .u64 (z:Int))::LLc kk pv m)) ?_ ?_
  ·simp only[sz,simprocAttr,sf,h5,h11,h12,h13,h14,rp,za1,za2,zb1,zb2,cu,sa,sb,so,sn,sg,hj]
   simp[St,LLc,sx,h1,h5,h6,h11,h12,h13]
  clear h1 h5 h6 h11 h12 h13 h14
  rintro t df g4 ⟨rfl,h11,h12,h13,h5,h6,h1,-⟩
  have hal:(2:Nat) ^ a<2 ^ p.length:=Nat.pow_lt_pow_right (by decide) ha
  have hbl:(2:Nat) ^ b<2 ^ p.length:=Nat.pow_lt_pow_right (by decide) hb
  have hzl:=hz.1.1
  obtain ⟨zca,zcb⟩:=(kV (n:=p.length)).1 hz.1.2.1
  have x1:2 ^ b &&& 2 ^ a=0:=eI.2 fun v h=>by
   rw[el,el] at h
   obtain ⟨h1,h2⟩:=h
   have h1:v=b:=h1
   have h2:v=a:=h2
   omega
  have x2:z &&& 2 ^ a=0:=(vH hz.1.2.1).1
  have x3:z &&& 2 ^ b=0:=(vH hz.1.2.1).2
  have r0:=lO hG hal hbl hzl x1 x2 x3
  have hap:=(oC hG hal hbl hzl x1 x2 x3).2 hz.1.2.2
  obtain ⟨A,hA⟩:∃A,A=2 ^ a:=⟨_,rfl⟩
  obtain ⟨B,hB⟩:∃B,B=2 ^ b:=⟨_,rfl⟩
  have s1:aT .shl (.int .u64 1) (.int .i64 (a:Int))=.val (.int .u64 (A:Int)):=by rw[aK,cm (by omega),hA]
  have s2:aT .shl (.int .u64 1) (.int .i64 (b:Int))=.val (.int .u64 (B:Int)):=by rw[aK,cm (by omega),hB]
  rw[<-hA,<-hB] at hap r0
  rw[<-hA] at hal
  rw[<-hB] at hbl
  have kA:=fun g=>mf (d:=d) (g:=g) (xs:=A) (ys:=B) (zs:=z) hd hp (by omega) (by omega) (by omega)
  rw[hap,r0] at kA
  have kI:=fun g=>tT (d:=d) (g:=g) (w:=true) hd
  have kU:=fun g=>B7 (d:=d) (g:=g) (w:=z) hd
  have kD:∀g,cg C0 (I C0) d (jd N.aa (.bool true)) [.bool true,.int .i64 0] g=.upd (.bool true) g:=fun g=>qo (w:=true) (x:=true) (e:=0)
  have kE:∀g,cg C0 (I C0) d (jd N.am (.int .u64 (z:Int))) [.int .u64 (z:Int),.int .i64 0] g=.upd (.bool true) g:=fun g=>by
   rw[AK];simp
  refine oP (P:=fun t' df' g'=>df'=[]/\St t' ((11,.int .i64 (a:Int))::(12,.int .i64 (b:Int))::(13,.int .u64 (z:Int))::LLc kk pv m)) ?_ ?_
  ·simp only[sz,simprocAttr,sf,h5,h11,h12,h13,s1,s2,kA,kI,kU,kD,kE,kL2,eF,lT,dt,jR]
   rw[oy (a:=133) (w:=.bool true) (by simp[sx]),zw (a:=147) (w:=.int .u64 (z:Int)) (by simp[sx])]
   refine ⟨?_,by simp[St,LLc,sx,h1,h5,h6,h11,h12,h13]⟩
   simp only[List.reverse_cons,List.reverse_nil,List.nil_append,List.cons_append]
   exact bU [false,false,false,false,false,false,false,false,false,false,false,false,false,false,false,false,false,false,false,false,false,false,false,false] [] (by simp[All2,ah,aF,aO]) (by decide) (by simp)
  clear h1 h5 h6 h11 h12 h13
  rintro t df g5 ⟨rfl,h11,h12,h13,h5,h6,h1,-⟩
  have wM:IntKind.wrap .u64 ((m:Int)+1)=((2 ^ p.length:Nat):Int):=by rw[eD (by omega) (by omega)];omega
  simp only[sz,simprocAttr,h6,wM]
  refine xR (kk:=kk) hd hp hG hm ha hb hab hz (by simp[St,LLc,sx,h1,h5,h6,h11,h12,h13]) (by simp[sx]) (by simp[sx]) ?_
  intro t g'
  simp only[sz,simprocAttr,dF]
end
theorem kC {x:tA}{xs:List AV}{kk:Nat}(hx:Rp.rp NoP 0 .nil x xs)(hk:kk<256) :
  ∃g',(I C0).call 1 N.aJ [.agg xs,.int .u8 (kk:Int)] G.empty=.ok (.bool true) g':=by
 have hm:∀h,Agg x NoP 0 h (.agg xs):=fun h=>⟨_,rfl,Rp.tree hx (Nat.le_refl _)⟩
 obtain ⟨_,_,rfl,ha',hb'⟩:=fM.1 hx
 obtain ⟨a,rfl,-⟩:=bB.1 ha'
 obtain ⟨b,rfl,-⟩:=bB.1 hb'
 rw[List.cons_append,List.nil_append] at hm ⊢
 have key:=fE (C:=C0) (d:=1) (f:=N.aJ) («as»:=[.agg [a,b],.int .u8 (kk:Int)]) (g:=G.empty) (K:=fun v g'=>v=.bool true) iF (by simp[cO]) ?_
 ·cases hc':(I C0).call 1 N.aJ [.agg [a,b],.int .u8 (kk:Int)] G.empty with
  | fail=>rw[hc'] at key;exact key.elim
  | ok v g'=>rw[hc'] at key;exact ⟨g',by rw[show v=.bool true from key]⟩
 have ld:aC (.cells 2 [[a,b]] 0 false false) 0 0 true 2 0=.val (.agg [a,b]):=rfl
 simp only[sz,simprocAttr,cO,nW,d5,su,ld]
 refine tK (wS (by decide) (hm _)) fun pv hz=>?_
 obtain ⟨p,⟨hG,-⟩,hz⟩:=hz
 have hp:SlR NoP 0 .nil p pv:=by
  obtain ⟨z',e,hz'⟩:=bB.1 hz
  injection e with e
  subst e
  exact hz'
 have n8:=hG.l8
 have h256:=iZ n8
 have lv:=hp.len
 have hsl:aT .shl (.int .u64 1) (.int .i64 (p.length:Int))=.val (.int .u64 ((2 ^ p.length:Nat):Int)):=by rw[aK,cm (by omega)]
 have hp1:1<=2 ^ p.length:=Nat.one_le_two_pow
 obtain ⟨m,hmm⟩:∃m,m=2 ^ p.length - 1:=⟨_,rfl⟩
 have hw:IntKind.wrap .u64 (((2 ^ p.length:Nat):Int) - 1)=(m:Int):=by rw[eD (by omega) (by omega)];omega
 simp only[sz,simprocAttr,lv,hsl,hw]
 refine yW (kk:=kk) (m:=m) (by decide) hp hG hmm (by simp[St,LLc,sx]) (by simp[sx]) (by simp[sx]) ?_
 intro t g' ht
 simp only[sz,simprocAttr]
 exact yj (by decide) hp hG hmm hk ht
end
end Hx
end
section
namespace Hx
open Go Go.RowKit Go.ChangeShapes Go.WideShapes
def ki (P:Program):List Field->Nat->Option Nat
 | [],k=>some k
 | f::fs,k=>if f.offset=k then ki P fs (k+P.cellsOf f.type) else none
def kn (P:Program):Nat->TypeId->Bool
 | 0,_=>false
 | n+1,t=>match P.underlying t with
  | some .bool=>true
  | some (.int _)=>true
  | some (.slice e)=>decide (0<P.cellsOf e)&&kn P n e
  | some (.struct fs)=>(ki P fs.toList 0 == some (P.cellsOf t))&&fs.toList.all (fun f=>kn P n f.type)
  | some (.array m e)=>decide (m*P.cellsOf e=P.cellsOf t)&&kn P n e
  | _=>false
def Sh (P:Program):Nat->TypeId->List AV->Prop
 | 0,_,_=>False
 | n+1,t,xs=>match P.underlying t with
  | some .bool=>∃b,xs=[.bool b]
  | some (.int k)=>∃z,xs=[.int k z]/\(Lit.int k z).wf=true
  | some (.slice e)=>xs=[.nils]\/∃rows,xs=[.tsl 0 (P.cellsOf e) rows]/\rows.length<9223372036854775808/\∀row∈rows,Sh P n e row
  | some (.struct fs)=>∃xss,xs=xss.flatten/\All2 (fun (f:Field) ys=>Sh P n f.type ys) fs.toList xss
  | some (.array m e)=>∃xss:List (List AV),xs=xss.flatten/\xss.length=m/\∀ys∈xss,Sh P n e ys
  | _=>False
def rA (P:Program)(w:World)(n:Nat)(t:TypeId)(xs:List AV)(cs:List Value):Prop :=
 RVs0 w xs cs/\(∀y∈xs,y.one=true/\Closed y)/\Sh P n t xs
theorem RVs0.append {w:World}{xs ys:List AV}{cs ds:List Value}(h:RVs0 w xs cs)(h':RVs0 w ys ds):RVs0 w (xs++ys) (cs++ds):=by
 refine ⟨by rw[List.length_append,List.length_append,h.1,h'.1],fun i x v hx hv=>?_⟩
 rcases Nat.lt_or_ge i xs.length with hi | hi
 ·rw[List.getElem?_append_left hi] at hx
  rw[List.getElem?_append_left (by rw[<-h.1];exact hi)] at hv
  exact h.2 i x v hx hv
 ·rw[List.getElem?_append_right hi] at hx
  rw[List.getElem?_append_right (by rw[<-h.1];exact hi),<-h.1] at hv
  exact h'.2 _ x v hx hv
theorem ue (b o n:Nat):(⟨b,o,none⟩:Addr).add n=adr b (o+n):=by
 unfold Addr.add
 split
 ·rename_i h;subst h;rfl
 ·rfl
variable {H:Type}{enc:TypeId×Value->H}{P:Program}{w:World}
theorem pr:∀{fl:List Field} {k K:Nat},ki P fl k=some K->k<=K
 | [],k,K,h=>by injection h with h;omega
 | f::fl,k,K,h=>by
  unfold ki at h
  split at h
  ·have:=pr h;omega
  ·cases h
theorem xF {n:Nat}{cs:List Value}:∀{fl:List Field} {k K:Nat},ki P fl k=some K ->
  (∀f∈fl,∃xs,rA P w n f.type xs ((cs.drop f.offset).take (P.cellsOf f.type))) ->
  ∃xss,All2 (fun (f:Field) ys=>Sh P n f.type ys) fl xss/\RVs0 w xss.flatten ((cs.drop k).take (K - k))/\∀y∈xss.flatten,y.one=true/\Closed y
 | [],k,K,h,_=>by
  injection h with h;subst h
  exact ⟨[],trivial,by rw[Nat.sub_self,List.take_zero];exact ⟨rfl,fun i x v hx=>by simp at hx⟩,fun y hy=>by simp at hy⟩
 | f::fl,k,K,h,hg=>by
  unfold ki at h
  split at h
  ·rename_i ho
   subst ho
   obtain ⟨xs,h1,h2,h3⟩:=hg f (by simp)
   obtain ⟨xss,a1,a2,a3⟩:=xF h fun f' hf'=>hg f' (by simp[hf'])
   have hle:=pr h
   refine ⟨xs::xss,⟨h3,a1⟩,?_,fun y hy=>?_⟩
   ·have e:(cs.drop f.offset).take (K - f.offset)=(cs.drop f.offset).take (P.cellsOf f.type)++(cs.drop (f.offset+P.cellsOf f.type)).take (K - (f.offset+P.cellsOf f.type)):=by
     rw[show K - f.offset=P.cellsOf f.type+(K - (f.offset+P.cellsOf f.type)) by omega,List.take_add,List.drop_drop]
    rw[e,List.flatten_cons]
    exact h1.append a2
   ·rw[List.flatten_cons,List.mem_append] at hy
    rcases hy with hy | hy
    ·exact h2 y hy
    ·exact a3 y hy
  ·cases h
theorem ug {n:Nat}{e:TypeId}{cs:List Value}:∀{m k:Nat},
  (∀i,i<m->∃xs,rA P w n e xs ((cs.drop ((k+i)*P.cellsOf e)).take (P.cellsOf e))) ->
  ∃xss:List (List AV),xss.length=m/\(∀ys∈xss,Sh P n e ys)/\RVs0 w xss.flatten ((cs.drop (k*P.cellsOf e)).take (m*P.cellsOf e))/\∀y∈xss.flatten,y.one=true/\Closed y
 | 0,k,_=>⟨[],rfl,fun y hy=>by simp at hy,by rw[Nat.zero_mul,List.take_zero];exact ⟨rfl,fun i x v hx=>by simp at hx⟩,fun y hy=>by simp at hy⟩
 | m+1,k,hg=>by
  obtain ⟨xs,h1,h2,h3⟩:=hg 0 (by omega)
  rw[Nat.add_zero] at h1
  obtain ⟨xss,a0,a1,a2,a3⟩:=ug (m:=m) (k:=k+1) fun i hi=>by
   have:=hg (i+1) (by omega)
   rwa [show k+(i+1)=k+1+i by omega] at this
  refine ⟨xs::xss,by simp[a0],fun ys hy=>?_,?_,fun y hy=>?_⟩
  ·rcases List.mem_cons.1 hy with rfl | hy
   ·exact h3
   ·exact a1 ys hy
  ·have e:(cs.drop (k*P.cellsOf e)).take ((m+1)*P.cellsOf e)=(cs.drop (k*P.cellsOf e)).take (P.cellsOf e)++(cs.drop ((k+1)*P.cellsOf e)).take (m*P.cellsOf e):=by
    rw[show (m+1)*P.cellsOf e=P.cellsOf e+m*P.cellsOf e by rw[Nat.add_mul];omega,List.take_add,List.drop_drop,Nat.add_mul,Nat.one_mul]
   rw[e,List.flatten_cons]
   exact h1.append a2
  ·rw[List.flatten_cons,List.mem_append] at hy
   rcases hy with hy | hy
   ·exact h2 y hy
   ·exact a3 y hy
theorem y9:∀(n:Nat) (t:TypeId),kn P n t=true->∀(fuel:Nat) (cs:List Value) (x:DataW H×List MemPlace),DataW.trod enc P w 0 (fun _=>true) true fuel t cs=some x->∃xs,rA P w n t xs cs:=by
 intro n
 induction n with
 | zero=>intro t h;simp[kn] at h
 | succ n ih =>
  intro t h fuel cs x hx
  unfold kn at h
  split at h
  ·rename_i hu
   obtain ⟨b,rfl,-⟩:=DataW.trod_bool hu hx
   refine ⟨[.bool b],⟨rfl,fun i x v h1 h2=>?_⟩,fun y hy=>?_,?_⟩
   ·cases i with
    | zero=>simp at h1 h2;subst h1;subst h2;exact .bool _ _
    | succ i=>simp at h1
   ·simp at hy;subst hy;exact ⟨rfl,.bool _⟩
   ·unfold Sh;rw[hu];exact ⟨b,rfl⟩
  ·rename_i k hu
   obtain ⟨z,rfl,-,hwf⟩:=DataW.trod_int hu hx
   refine ⟨[.int k z],⟨rfl,fun i x v h1 h2=>?_⟩,fun y hy=>?_,?_⟩
   ·cases i with
    | zero=>simp at h1 h2;subst h1;subst h2;exact .int _ _ _
    | succ i=>simp at h1
   ·simp at hy;subst hy;exact ⟨rfl,.int _ _⟩
   ·unfold Sh;rw[hu];exact ⟨z,rfl,hwf⟩
  ·rename_i e hu
   rw[Bool.and_eq_true,decide_eq_true_eq] at h
   obtain ⟨hpos,hp⟩:=h
   rcases DataW.trod_slice hu hx with ⟨rfl,-⟩ | ⟨a,len,cap,elems,rest,m,-,rfl,-,-,hlc,hcm,hlen,hel,-,-⟩
   ·refine ⟨[.nils],⟨rfl,fun i x v h1 h2=>?_⟩,fun y hy=>?_,?_⟩
    ·cases i with
     | zero=>simp at h1 h2;subst h1;subst h2;exact .nils _
     | succ i=>simp at h1
    ·simp at hy;subst hy;exact ⟨rfl,.nils⟩
    ·unfold Sh;rw[hu];exact .inl rfl
   ·have each:∀i,i<len->∃xs vs,w.cells? 0 (a.add (i*P.cellsOf e)) (P.cellsOf e)=some vs/\rA P w n e xs vs:=by
     intro i hi
     have:=hel i hi
     rw[List.getElem?_eq_getElem (show i<elems.length by omega),Option.bind_eq_some_iff] at this
     obtain ⟨vs,h1,h2⟩:=this
     obtain ⟨xs,hg⟩:=ih e hp _ _ _ h2
     exact ⟨xs,vs,h1,hg⟩
    let rowf:Nat->List AV:=fun i=>if hi:i<len then Classical.choose (each i hi) else []
    let valf:Nat->List Value:=fun i=>if hi:i<len then Classical.choose (Classical.choose_spec (each i hi)) else []
    have hrow:∀i,i<len->w.cells? 0 (a.add (i*P.cellsOf e)) (P.cellsOf e)=some (valf i)/\rA P w n e (rowf i) (valf i):=by
     intro i hi
     have:=Classical.choose_spec (Classical.choose_spec (each i hi))
     simpa only[rowf,valf,dif_pos hi] using this
    have hget:∀(i:Nat) (row:List AV),((List.range len).map rowf)[i]?=some row->i<len/\row=rowf i:=by
     intro i row h1
     rw[List.getElem?_map] at h1
     rcases Nat.lt_or_ge i len with hi | hi
     ·rw[List.getElem?_range hi] at h1
      injection h1 with h1
      exact ⟨hi,h1.symm⟩
     ·rw[List.getElem?_eq_none (by simpa using hi)] at h1;cases h1
    refine ⟨[.tsl 0 (P.cellsOf e) ((List.range len).map rowf)],⟨rfl,fun i x v h1 h2=>?_⟩,fun y hy=>?_,?_⟩
    ·cases i with
     | succ i=>simp at h1
     | zero =>
      simp at h1 h2;subst h1;subst h2
      rcases Nat.eq_zero_or_pos len with h0 | h0
      ·subst h0
       exact .tnil 0 0 _ a cap (Nat.le_refl _)
      ·obtain ⟨b,o,spot⟩:=a
       have hc0:=World.cells?_some (hrow 0 h0).1
       have hv0:(valf 0)[0]?=some (valf 0)[0]:=List.getElem?_eq_getElem (by rw[hc0.2.1];exact hpos)
       have h00:=hc0.2.2 0 hpos
       rw[hv0] at h00
       have hspot:spot=none:=by simpa [Addr.add] using World.cell?_spot h00
       subst hspot
       have cellat:∀i j row x,((List.range len).map rowf)[i]?=some row->row[j]?=some x->∃v,(valf i)[j]?=some v/\w.cell? (adr b (o+i*P.cellsOf e+j))=some v/\RV w gm0 av0 0 x v:=by
        intro i j row x hr hxj
        obtain ⟨hi,rfl⟩:=hget i row hr
        obtain ⟨q1,q2⟩:=hrow i hi
        have hj:j<(rowf i).length:=(List.getElem?_eq_some_iff.1 hxj).1
        have hj':j<(valf i).length:=by rw[<-q2.1.1];exact hj
        have hcs:=World.cells?_some q1
        have hcell:=hcs.2.2 j (by rw[<-hcs.2.1];exact hj')
        rw[List.getElem?_eq_getElem hj'] at hcell
        refine ⟨_,List.getElem?_eq_getElem hj',?_,q2.1.2 j x _ hxj (List.getElem?_eq_getElem hj')⟩
        rw[ue,show adr b (o+i*P.cellsOf e)=(⟨b,o+i*P.cellsOf e,none⟩:Addr) from rfl,ue] at hcell
        exact hcell
       have hb:b<w.heap.size:=by
        have:=nA h00
        simpa [Addr.add] using this
       have hrl:((List.range len).map rowf).length=len:=by simp
       have key:=RV.tsl (w:=w) (γ:=gm0) (A:=av0) 0 0 (P.cellsOf e) ((List.range len).map rowf) b o cap (fun i j=>(valf i)[j]?.getD undef) (Nat.le_refl _) (by rw[hrl];exact hlc) hb (BS b) (fun h=>h)
        (fun i row hr=>by
         obtain ⟨hi,rfl⟩:=hget i row hr
         obtain ⟨q1,q2⟩:=hrow i hi
         rw[q2.1.1,(World.cells?_some q1).2.1])
        (fun i j row x hr hxj=>by
         obtain ⟨hi,rfl⟩:=hget i row hr
         exact ((hrow i hi).2.2.1 x (List.mem_of_getElem? hxj)).1)
        (fun i j row x hr hxj=>by
         obtain ⟨v,v1,v2,v3⟩:=cellat i j row x hr hxj
         rw[v2,v1];rfl)
        (fun i j row x hr hxj=>by
         obtain ⟨v,v1,v2,v3⟩:=cellat i j row x hr hxj
         rw[v1];exact v3)
        (fun row hr x hx=>by
         obtain ⟨i,hi⟩:=List.getElem?_of_mem hr
         obtain ⟨hi2,rfl⟩:=hget i row hi
         exact ((hrow i hi2).2.2.1 x hx).2)
       rw[hrl] at key
       exact key
    ·simp only[List.mem_singleton] at hy;subst hy
     refine ⟨rfl,.tsl _ _ _ fun row hr x hx=>?_⟩
     obtain ⟨i,hi⟩:=List.getElem?_of_mem hr
     obtain ⟨hi2,rfl⟩:=hget i row hi
     exact ((hrow i hi2).2.2.1 x hx).2
    ·unfold Sh;rw[hu]
     refine .inr ⟨_,rfl,?_,fun row hr=>?_⟩
     ·rw[List.length_map,List.length_range]
      have:maxLen<9223372036854775808:=by decide
      omega
     ·obtain ⟨i,hi⟩:=List.getElem?_of_mem hr
      obtain ⟨hi2,rfl⟩:=hget i row hi
      exact (hrow i hi2).2.2.2
  ·rename_i fs hu
   rw[Bool.and_eq_true] at h
   obtain ⟨hc,hp⟩:=h
   have hc:ki P fs.toList 0=some (P.cellsOf t):=eq_of_beq hc
   obtain ⟨ys,m,-,-,hl,hyl,hel⟩:=DataW.trod_struct hu hx
   obtain ⟨xss,a1,a2,a3⟩:=xF (w:=w) (n:=n) (cs:=cs) hc fun f hf=>by
    obtain ⟨i,hi,e⟩:=List.mem_iff_getElem.1 hf
    have hfi:fs[i]?=some f:=by rw[<-Array.getElem?_toList,List.getElem?_eq_getElem hi,e]
    have:=hel i f hfi
    rw[List.getElem?_eq_getElem (show i<ys.length by rw[hyl];simpa using hi)] at this
    exact ih f.type (List.all_eq_true.1 hp f hf) _ _ _ this
   rw[List.drop_zero,Nat.sub_zero,<-hl,List.take_length] at a2
   refine ⟨xss.flatten,a2,a3,?_⟩
   unfold Sh;rw[hu];exact ⟨xss,rfl,a1⟩
  ·rename_i m e hu
   rw[Bool.and_eq_true,decide_eq_true_eq] at h
   obtain ⟨hc,hp⟩:=h
   obtain ⟨ys,q,-,-,hl,hyl,hel⟩:=DataW.trod_array hu hx
   obtain ⟨xss,a0,a1,a2,a3⟩:=ug (w:=w) (n:=n) (e:=e) (cs:=cs) (m:=m) (k:=0) fun i hi=>by
    have:=hel i hi
    rw[List.getElem?_eq_getElem (show i<ys.length by omega)] at this
    rw[Nat.zero_add]
    exact ih e hp _ _ _ this
   rw[Nat.zero_mul,List.drop_zero,hc,<-hl,List.take_length] at a2
   refine ⟨xss.flatten,a2,a3,?_⟩
   unfold Sh;rw[hu];exact ⟨xss,rfl,a0,a1⟩
  ·cases h
theorem Bj {n:Nat}{t:TypeId}{xs:List AV}(hu:P.underlying t=some (.int .u8))(h:Sh P n t xs):∃x:UInt8,Rp.rp NoP 0 .nil x xs:=by
 cases n with
 | zero=>exact h.elim
 | succ n =>
  unfold Sh at h;rw[hu] at h
  obtain ⟨z,rfl,hw⟩:=h
  simp only[Lit.wf,IntKind.min,IntKind.max,IntKind.signed,IntKind.bits,Bool.and_eq_true] at hw
  refine ⟨UInt8.ofNat z.toNat,xT.2 ?_⟩
  have h1:0<=z:=by simpa using hw.1
  have h2:z<=255:=by simpa using hw.2
  have h3:(UInt8.ofNat z.toNat).toNat=z.toNat:=UInt8.toNat_ofNat_of_lt' (by show z.toNat<256;omega)
  rw[h3,Int.toNat_of_nonneg h1]
theorem uX {α:Type} [Rp α]{n:Nat}{t e:TypeId}{xs:List AV}(hu:P.underlying t=some (.slice e))(hsz:P.cellsOf e=Rp.sz α)(hel:∀ys,Sh P n e ys->∃y:α,Rp.rp NoP 0 .nil y ys)(h:Sh P (n+1) t xs) :
  ∃l:List α,Rp.rp NoP 0 .nil l xs:=by
 unfold Sh at h;rw[hu] at h
 rcases h with rfl | ⟨rows,rfl,hl,hr⟩
 ·exact ⟨[],.nils,rfl,by simp,rfl⟩
 ·have:∀rows:List (List AV),(∀row∈rows,Sh P n e row)->∃l:List α,All2 (Rp.rp NoP 0 .nil) l rows:=by
   intro rows
   induction rows with
   | nil=>intro _;exact ⟨[],trivial⟩
   | cons r rows ih =>
    intro h
    obtain ⟨y,hy⟩:=hel r (h r (by simp))
    obtain ⟨l,hl⟩:=ih fun row hrow=>h row (by simp[hrow])
    exact ⟨y::l,hy,hl⟩
  obtain ⟨l,ha⟩:=this rows hr
  exact ⟨l,_,rfl,by rw[ha.len];exact hl,Nat.le_refl _,.inl hsz,ha⟩
theorem w6 {n:Nat}{t:TypeId}{fs:Array Field}{xs:List AV}(hu:P.underlying t=some (.struct fs))(h:Sh P (n+1) t xs):∃xss,xs=xss.flatten/\All2 (fun (f:Field) ys=>Sh P n f.type ys) fs.toList xss:=by
 unfold Sh at h;rw[hu] at h;exact h
end Hx
end
