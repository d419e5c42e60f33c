/- A part of the proof: an interpreter over abstract values, shown right against the model, and what the functions of the chapter compute on it. -/
import Derived.Test.YtjddchnjpobmkaaHx11
set_option linter.unusedVariables false
set_option linter.unusedSimpArgs false
set_option linter.unnecessarySimpa false
section
namespace Hx
open Go
abbrev QnM:Type:=Net×List Factor×List (List Int)
theorem rm {P:Nat->Prop}{k:Nat}{h:H}{x:QnM}{cs:List AV}:Rp.rp P k h x cs↔∃a b c,cs=[.int .i64 x.1.grain,a,b,c]/\SlR P k h x.1.nodes a/\SlR P k h x.2.1 b/\SlR P k h x.2.2 c:=by
 constructor
 ·rintro ⟨c1,c2,rfl,h1,c3,c4,rfl,⟨b,rfl,hb⟩,⟨c,rfl,hc⟩⟩
  obtain ⟨a,rfl,ha⟩:=kH.1 h1
  exact ⟨a,b,c,rfl,ha,hb,hc⟩
 ·rintro ⟨a,b,c,rfl,ha,hb,hc⟩
  exact ⟨[_,a],[b,c],rfl,kH.2 ⟨a,rfl,ha⟩,[b],[c],rfl,⟨b,rfl,hb⟩,⟨c,rfl,hc⟩⟩
theorem HL {n:Net}(h:NR n){k:Nat}{x:Node}(hx:n.nodes[k]?=some x):(k:Int) ∉ x.parents:=fun hm=>by
 have hk:=(List.getElem?_eq_some_iff.1 hx).1
 have hl:=h.l2
 have h1:=sO.1 h.acyc k (by simp[S.am];exact hk)
 have h2:Par (S.am n) k=S.aq x.parents:=by simp[Par,S.am,hx]
 have h3:(S.aq x.parents).testBit k=true:=(qH fun y hy=>by have:=bh (h.places x (List.mem_of_getElem? hx)) y hy;omega).2 hm
 have h4:=vF (p:=S.am n) (s:=Par (S.am n) k) (S.am n).length k (by rw[h2];exact h3)
 rw[h1] at h4;cases h4
theorem GQ {l:List Int}{k:Int}(h:S.ax l k=true):l.Nodup:=by
 rw[List.Nodup,List.pairwise_iff_getElem]
 intro i j hi hj hij e
 have:=tQ h (List.getElem?_eq_getElem hi) (List.getElem?_eq_getElem hj) hij
 omega
theorem He {n:Net}(h:NR n){k:Nat}{x:Node}(hx:n.nodes[k]?=some x)(p:Nat):(S.ay x.parents p (k:Int)).Nodup:=by
 unfold S.ay
 rw[List.perm_middle.nodup_iff,List.take_append_drop,List.nodup_cons]
 exact ⟨HL h hx,GQ (h.places x (List.mem_of_getElem? hx))⟩
theorem xg {n:Net}(h:NR n){k:Nat}{x:Node}(hx:n.nodes[k]?=some x)(p:Nat):∀y∈S.ay x.parents p (k:Int),0<=y/\y<n.nodes.length:=fun y hy=>by
 have hk:=(List.getElem?_eq_some_iff.1 hx).1
 have hp:=bh (h.places x (List.mem_of_getElem? hx))
 simp only[S.ay,List.mem_append,List.mem_cons] at hy
 rcases hy with hy | rfl | hy
 ·exact hp y (List.mem_of_mem_take hy)
 ·omega
 ·exact hp y (List.mem_of_mem_drop hy)
theorem dX (cs ps:List Int):(S.ae cs ps).length=ps.length:=by simp[S.ae]
theorem FV {n:Net}(h:NR n){k:Nat}{x:Node}(hx:n.nodes[k]?=some x)(p:Nat):∀c∈(S.aO n k x p).cards,1<=c/\c<=4 :=
 aN h.cs fun y hy=>by rw[aG];exact xg h hx p y hy
def S.bC (m:Nat)(f:Factor)(i:Nat)(R:List Int):Prop:=R.length=m/\∀(j:Nat) (y:Int),i<=j->f.vars[j]?=some y->R[y.toNat]?=some (S.aa (f.cards.drop (j+1)))
theorem Dl {m i:Nat}{f:Factor}{R:List Int}{y:Int}(h:S.bC m f (i+1) R)(hnd:f.vars.Nodup)(hin:∀y∈f.vars,0<=y/\y<m)(hy:f.vars[i]?=some y):S.bC m f i (R.set y.toNat (S.aa (f.cards.drop (i+1)))):=by
 refine ⟨by simp[h.1],fun j z hij hz=>?_⟩
 have hyi:=hin y (List.mem_of_getElem? hy)
 have hzi:=hin z (List.mem_of_getElem? hz)
 by_cases e:j=i
 ·subst e
  rw[hy] at hz;injection hz with hz;subst hz
  rw[List.getElem?_set_self (by rw[h.1];omega)]
 ·rw[List.getElem?_set_ne]
  ·exact h.2 j z (by omega) hz
  ·intro e2
   have e3:y=z:=by omega
   subst e3
   exact e ((List.getElem?_inj (List.getElem?_eq_some_iff.1 hz).1 hnd).1 (by rw[hz,hy]))
structure QnOk (n:Net) (y:QnM):Prop where
 net:y.1=n
 fl:y.2.1.length=n.nodes.length
 fs:S.bG n y.2.1
 sl:y.2.2.length=n.nodes.length
 st:∀(k:Nat) (f:Factor) (R:List Int),y.2.1[k]?=some f->y.2.2[k]?=some R->S.bC n.nodes.length f 0 R
def S.aZ (n:Net)(ls:List (List Int)):Int:=if S.aN n then (if ls.all (S.aJ n) then 0 else 2) else 50
def J8 (n:Net)(ls:List (List Int)):VS:=fun P k h v=>∃y:QnM,(S.aZ n ls=0->QnOk n y)/\nJ (Agg y) (One (S.aZ n ls)) P k h v
end Hx
end
section
namespace Hx
open Go
noncomputable section
def AT (fl:AV)(m q k:Nat):List (Nat×AV):=[(11,.hptr q 0 0 0),(2,.hptr 0 0 0 0),(4,.hptr 1 0 0 0),(45,fl),(46,.int .i64 (m:Int)),(47,.int .i64 (k:Int))]
structure AskI (fl:AV) (m q k:Nat) (g0:G) (iR:Nat) (R:AV) (f:Factor) (fb j:Nat) (t:T) (g:G):Prop where
 st:St t ((13,.hptr fb 0 0 0)::(12,.int .i64 (k:Int))::(14,.int .i64 (S.aa (f.cards.drop j)))::AT fl m q k)
 nx:g0.nx<=g.nx
 fr:∀i,i<g0.nx->i≠iR->g.h.get i=g0.h.get i
 ow:∃X:List Int,Own g 2 R 1 (X.map ci)/\S.bC m f j X
theorem Mx {d m q k fb iR:Nat}{gr:Int}{va ca wa S_ R b fl fl':AV}{f:Factor}{rowsS:List (List AV)}{Q:QT}{t:T}{g g0:G}(hva:SlR NoP 0 .nil f.vars va)(hca:SlR NoP 0 .nil f.cards ca)(hcl:f.cards.length=f.vars.length)(hvl:f.vars.length<=16)(hcb:∀c∈f.cards,1<=c/\c<=4)(hnd:f.vars.Nodup)(hin:∀y∈f.vars,0<=y/\y<m)
  (e11:g0.h.get q=.cells 4 [[.int .i64 gr,b,fl',S_]] 0 false false) (e13:g0.h.get fb=.cells 3 [[va,ca,wa]] 0 false false) (hS:Own g0 2 S_ 1 rowsS) (hk:rowsS[k]?=some [R]) (vR:vid R=some iR) (vS:vid S_≠some iR) (n1:q≠iR/\fb≠iR) (n2:q<g0.nx/\fb<g0.nx/\iR<g0.nx)
  (h0:AskI fl m q k g0 iR R f fb f.vars.length t g) (h15:tat t 15=.int .i64 ((f.vars.length:Int) - 1))
  (fin:∀t g,AskI fl m q k g0 iR R f fb 0 t g->Q (.exit 4) t [] g):wpL (wp C0 d none jZ) Q t [] g:=by
 have rva:=fun h=>(hva.tree (h':=h) (Nat.le_refl 0)).ints
 have rca:=fun h=>(hca.tree (h':=h) (Nat.le_refl 0)).ints
 simp only[jZ]
 refine xI (m:=f.vars.length) (by omega) (fun j t df g=>df=[]/\AskI fl m q k g0 iR R f fb j t g) ⟨rfl,h0⟩ h15 (by decide)
  (by rintro j t df g v s (rfl | rfl | rfl | rfl | rfl) ⟨a1,⟨b1,b2,b3,b4,b5,b6,b7,b8,b9,-⟩,c1,c2,c3⟩<;>exact ⟨a1,by simp[St,AT,sx,b1,b2,b3,b4,b5,b6,b7,b8,b9],c1,c2,c3⟩) ?_ ?_
 ·rintro j t df g hj ⟨rfl,⟨h13,h12,h14,h11,h2,h4,h45,h46,h47,-⟩,hnx,hfr,X,hX,hst⟩ h15
  obtain ⟨y,hy,-,hym⟩:=au hj
  obtain ⟨hy0,hym⟩:=hin y hym
  obtain ⟨yn,rfl⟩:=Int.eq_ofNat_of_zero_le hy0
  have hcj:f.cards[j]?=some f.cards[j]:=List.getElem?_eq_getElem (by omega)
  have hcb1:=hcb _ (List.getElem_mem (show j<f.cards.length by omega))
  have hdr:f.cards.drop j=f.cards[j]::f.cards.drop (j+1):=List.drop_eq_getElem_cons (by omega)
  generalize f.cards[j]=c at hcj hcb1 hdr
  have u1:j<(f.vars.map ci).length:=by simpa using hj
  have u2:(f.vars.map ci)[j]?=some (ci (yn:Int)):=by rw[List.getElem?_map,hy];rfl
  have u3:j<(f.cards.map ci).length:=by simp;omega
  have u4:(f.cards.map ci)[j]?=some (ci c):=by rw[List.getElem?_map,hcj];rfl
  have hXl:=hst.1
  have hylt:yn<X.length:=by omega
  have u5:yn<(X.map ci).length:=by simpa using hylt
  have u6:(X.map ci)[yn]?=some (ci X[yn]):=by rw[List.getElem?_map,List.getElem?_eq_getElem hylt];rfl
  have k11:g.h.get q=.cells 4 [[.int .i64 gr,b,fl',S_]] 0 false false:=by rw[hfr q n2.1 n1.1,e11]
  have k13:g.h.get fb=.cells 3 [[va,ca,wa]] 0 false false:=by rw[hfr fb n2.2.1 n1.2,e13]
  have hS':Own g 2 S_ 1 rowsS:=hS.fr hnx fun i hi=>hfr i (hS.lt hi).2 fun e=>vS (by rw[hi,e])
  have rS:=hS'.rows
  have rX:=hX.rows
  have kl:k<rowsS.length:=(List.getElem?_eq_some_iff.1 hk).1
  have w0:S.aa (f.cards.drop j)=S.aa (f.cards.drop (j+1))*c:=by rw[hdr,bG,Int.mul_comm]
  have hpb:=bE (l:=f.cards.drop j) fun c hc=>hcb c (List.mem_of_mem_drop hc)
  have hp4:=cz (a:=(f.cards.drop j).length) (b:=16) (by simp;omega)
  have h48:(4:Int) ^ 16=4294967296:=by decide
  have w1:IntKind.wrap .i64 (S.aa (f.cards.drop (j+1))*c)=S.aa (f.cards.drop j):=by rw[<-w0,aC (by omega) (by omega)]
  have hst':=Dl hst hnd hin hy
  rw[Int.toNat_natCast] at hst'
  simp only[sz,simprocAttr,sf,h11,h12,h13,h14,h15,k11,k13,rva,u1,u2,rS,kl,hk,rX,u5,ci]
  refine bC (v:=R) (sz:=1) (n:=1) (i:=yn) (off:=0) (x:=.int .i64 (S.aa (f.cards.drop (j+1)))) (row':=ci (S.aa (f.cards.drop (j+1)))) (hX.fr (by simp;omega) fun i _=>by simp) u6 rfl rfl rfl fun g4 hu4 n4 f4=>?_
  rw[<-List.map_set] at hu4
  have f4':∀i,i≠iR->g4.h.get i=g.h.get i:=fun i hi=>by rw[f4 i (by rw[vR];intro e;injection e with e;exact hi e.symm)];simp
  have n4':g.nx<=g4.nx:=by rw[n4];simp;omega
  simp only[sz,simprocAttr]
  refine ⟨?_,?_⟩
  ·simp only[List.reverse_cons,List.reverse_nil,List.nil_append,List.cons_append]
   exact aL [false,false,false,false,false,false,false,false,false,false,false,false,true] [] (by simp[All2,ae,aA]) (by decide) (by simp)
  have k13':g4.h.get fb=.cells 3 [[va,ca,wa]] 0 false false:=by rw[f4' fb n1.2,k13]
  simp only[sz,simprocAttr,h13,h14,h15,k13',rca,u3,u4,ci,w1]
  refine ⟨by simp[St,AT,sx,h13,h12,h11,h2,h4,h45,h46,h47],?_,fun i h1 h2=>?_,_,hu4.fr (by simp) fun i _=>by simp,hst'⟩
  ·simp;omega
  ·simp only[bumpG_h]
   rw[f4' i h2,hfr i h1 h2]
 ·rintro t df g ⟨rfl,h⟩
  exact fin t g h
structure FOk (m:Nat) (f:Factor):Prop where
 cl:f.cards.length=f.vars.length
 vl:f.vars.length<=16
 cb:∀c∈f.cards,1<=c/\c<=4
 nd:f.vars.Nodup
 vr:∀y∈f.vars,0<=y/\y<m
theorem Ju {n:Net}(h:NR n){k:Nat}{x:Node}(hx:n.nodes[k]?=some x){p:Nat}(hp:p<=x.parents.length):FOk n.nodes.length (S.aO n k x p):=by
 have h1:=b_ (h.places x (List.mem_of_getElem? hx)) (by omega)
 have h2:=h.l2
 have h3:=qB x.parents p (k:Int) hp
 exact ⟨dX _ _,by show (S.ay x.parents p (k:Int)).length<=16;omega,FV h hx p,He h hx p,xg h hx p⟩
structure AskH (gr:Int) (b fl S_:AV) (m q:Nat) (fs:List Factor) (k:Nat) (g:G):Prop where
 h0:g.h.get 0=.cells 2 [[.int .i64 gr,b]] 0 false false
 h1:g.h.get 1=.cells 4 [[.int .i64 0,.nils,.nils,.nils]] 0 false false
 hq:g.h.get q=.cells 4 [[.int .i64 gr,b,fl,S_]] 0 false false
 q2:2<=q/\q<g.nx
 sq:∀i,vid S_=some i->i<q
 hS:∃(Vs:List AV) (l:List (List Int)),Own g 2 S_ 1 (Vs.map fun v=>[v])/\Vs.length=m/\l.length=k/\All2 (fun X v=>Own g (q+1) v 1 (X.map ci)) l (Vs.take k)/\∀(i:Nat) (f:Factor) (X:List Int),fs[i]?=some f->l[i]?=some X->S.bC m f 0 X
structure AskJ (gr:Int) (b fl S_:AV) (m q:Nat) (fs:List Factor) (k:Nat) (t:T) (g:G):Prop where
 st:St t [(11,.hptr q 0 0 0),(2,.hptr 0 0 0 0),(4,.hptr 1 0 0 0),(45,fl)]
 hp:AskH gr b fl S_ m q fs k g
theorem L4 {d m q:Nat}{gr:Int}{b fl S_:AV}{fs:List Factor}{Q:QT}{t:T}{g:G}(hb:∀g,ii .slice b g=.val (.int .i64 (m:Int)))(hm:m<=8)(hfl:SlR NoP 0 .nil fs fl)(hfm:fs.length=m)(hok:∀(i:Nat) (f:Factor),fs[i]?=some f->FOk m f)
  (h0:AskJ gr b fl S_ m q fs 0 t g) (h47:tat t 47=.int .i64 0) (h46:tat t 46=.int .i64 (m:Int))
  (fin:∀t g,AskJ gr b fl S_ m q fs m t g->Q (.exit 2) t [] g):wpL (wp C0 d none lj) Q t [] g:=by
 obtain ⟨rows,r1,r2,r3,r4⟩:=hfl.all
 have r1:∀h',am h' 3 fl=some rows:=r1
 simp only[lj,qe]
 refine aJ (m:=m) (by omega) (fun k t df g=>df=[]/\AskJ gr b fl S_ m q fs k t g) ⟨rfl,h0⟩ h47 h46 (by decide)
  (by rintro j t df g v s (rfl | rfl | rfl) ⟨a1,⟨b1,b2,b3,b4,-⟩,c1⟩<;>exact ⟨a1,by simp[St,sx,b1,b2,b3,b4],c1⟩) ?_ ?_
 ·rintro k t df g hk ⟨rfl,⟨h11,h2,h4,h45,-⟩,hp⟩ h47 h46
  obtain ⟨f,hf,-,-⟩:=au (l:=fs) (j:=k) (by omega)
  obtain ⟨row,q1,q2⟩:=r3 k f hf
  obtain ⟨va,ca,wa,rfl,hva,hca,hwa⟩:=aX.1 q2
  have hF:=hok k f hf
  have hlt:k<rows.length:=by omega
  have hry:=r4 (by omega)
  obtain ⟨Vs,l,hS,hVl,hll,hal,hst⟩:=hp.hS
  obtain ⟨q2a,q2b⟩:=hp.q2
  have ne0:∀i,i<g.nx->¬i=g.nx:=fun i hi=>by omega
  refine bk (P:=fun t' df g'=>df=[]/\g'=(g.new (.cells 3 [[.nils,.nils,.nils]] 0 false false)).put g.nx (.cells 3 [[va,ca,wa]] 0 false false)/\St t' ((13,.hptr g.nx 0 0 0)::(12,.int .i64 (k:Int))::AT fl m q k)) ?_ ?_
  ·simp only[sz,simprocAttr,h45,h47,r1,hlt,q1]
   simp[St,AT,sx,h11,h2,h4,h45,h47,h46]
  clear h11 h2 h4 h45 h47 h46
  rintro t df g1 ⟨rfl,hg1,⟨h13,h12,h11,h2,h4,h45,h46,h47,-⟩⟩
  have f1:∀i,i<g.nx->g1.h.get i=g.h.get i:=fun i hi=>by rw[hg1];simp[H.get_put,ne0 i hi]
  have n1:g1.nx=g.nx+1:=by rw[hg1];simp
  have k1:g1.h.get g.nx=.cells 3 [[va,ca,wa]] 0 false false:=by rw[hg1];simp[H.get_put]
  clear hg1
  have e0:g1.h.get 0=.cells 2 [[.int .i64 gr,b]] 0 false false:=by rw[f1 0 (by omega),hp.h0]
  have eq:g1.h.get q=.cells 4 [[.int .i64 gr,b,fl,S_]] 0 false false:=by rw[f1 q (by omega),hp.hq]
  have hS1:Own g1 2 S_ 1 (Vs.map fun v=>[v]):=hS.fr (by omega) fun i hi=>f1 i (hS.lt hi).2
  have rS:=hS1.rows
  have hkV:k<(Vs.map fun v=>[v]).length:=by simp;omega
  have hgV:(Vs.map fun v=>[v])[k]?=some [Vs[k]'(by omega)]:=by rw[List.getElem?_map,List.getElem?_eq_getElem (by omega)];rfl
  refine cV (P:=fun t' df g'=>df=[]/\St t' ((13,.hptr g.nx 0 0 0)::(12,.int .i64 (k:Int))::AT fl m q k)/\g1.nx<g'.nx/\∃R iR,vid R=some iR/\g1.nx<=iR/\iR<g'.nx/\Own g' 2 S_ 1 ((Vs.set k R).map fun v=>[v])/\Own g' (q+1) R 1 ((List.replicate m (0:Int)).map ci)/\∀i,i<g1.nx->vid S_≠some i->g'.h.get i=g1.h.get i) ?_ ?_
  ·simp only[sz,simprocAttr,sf,h11,h2,h12,e0,eq,hb]
   refine jd (b:=q+1) (n:=m) (by unfold a_;omega) (by unfold a_;omega) (by simp;omega) fun R g2 hR n2 f2 vR lg2=>?_
   simp only[sy] at n2 f2 vR lg2
   have hS2:Own g2 2 S_ 1 (Vs.map fun v=>[v]):=hS1.fr (by omega) fun i hi=>by
    have:=hS1.lt hi
    rw[f2 i (by omega)]
   have rS2:=hS2.rows
   simp only[sz,simprocAttr,sf,rS2,hkV]
   refine bC (v:=S_) (sz:=1) (n:=1) (i:=k) (off:=0) (x:=R) (row':=[R]) (hS2.fr (by simp;omega) fun i _=>by simp) hgV (by rw[hR.cell.1];rfl) hR.cell.2 (by rw[hR.cell.1];rfl) fun g4 hu4 n4 f4=>?_
   rw[show (Vs.map fun v=>[v]).set k [R]=(Vs.set k R).map fun v=>[v] from by rw[List.map_set]] at hu4
   have f4':∀i,vid S_≠some i->g4.h.get i=g2.h.get i:=fun i hi=>by rw[f4 i hi];simp
   have n4':g2.nx<=g4.nx:=by rw[n4];simp;omega
   simp only[sy,lg2]
   refine ⟨?_,?_,?_,R,g1.nx+6,vR,by omega,?_,?_,?_,fun i h1 h2=>?_⟩
   ·simp only[List.reverse_cons,List.reverse_nil,List.nil_append,List.cons_append]
    refine aL [false,false,false,false,false,false,true,false,true] [(0,6),(1,6),(2,6)] (by simp[All2,ae,aA]) (by decide) ?_
    rintro p hp' x y hx hy
    simp only[List.mem_cons,List.not_mem_nil,or_false] at hp'
    rcases hp' with rfl | rfl | rfl<;>(simp at hx hy;subst hx;subst hy;refine eH rfl rfl rfl rfl ?_ ?_ ?_<;>simp[ae,aA,ak]<;>omega)
   ·simp[St,AT,sx,h13,h12,h11,h2,h4,h45,h46,h47]
   ·omega
   ·omega
   ·exact hu4.fr (by simp) fun i _=>by simp
   ·have hR':Own g2 (q+1) R 1 ((List.replicate m (0:Int)).map ci):=by simpa [ci] using hR
    refine hR'.fr (by simp;omega) fun i hi=>?_
    have:=br vR hi
    simp only[bumpG_h]
    exact f4' i fun e=>by have:=hS1.lt e;omega
   ·rw[f4' i h2,f2 i (by omega)]
  clear h13 h12 h11 h2 h4 h45 h46 h47
  rintro t df g2 ⟨rfl,⟨h13,h12,h11,h2,h4,h45,h46,h47,-⟩,n2,R,iR,vR,hiR,hiR2,hS2,hR,f2⟩
  have e13:g2.h.get g.nx=.cells 3 [[va,ca,wa]] 0 false false:=by rw[f2 g.nx (by omega) (fun e=>by have:=hp.sq _ e;omega),k1]
  have e11:g2.h.get q=.cells 4 [[.int .i64 gr,b,fl,S_]] 0 false false:=by rw[f2 q (by omega) (fun e=>by have:=hp.sq _ e;omega),eq]
  have lva:=hva.len
  have hvl:=hF.vl
  have hR2:Own g2 2 R 1 ((List.replicate m (0:Int)).map ci):=Own.low hR (by omega)
  have w1:IntKind.wrap .i64 ((f.vars.length:Int) - 1)=(f.vars.length:Int) - 1:=aC (by omega) (by omega)
  have hgV2:((Vs.set k R).map fun v=>[v])[k]?=some [R]:=by rw[List.getElem?_map,List.getElem?_set_self (by omega)];rfl
  simp only[sz,simprocAttr,h13,e13,lva,w1]
  refine Mx (g0:=g2) (fl:=fl) (fl':=fl) (m:=m) (q:=q) (k:=k) (fb:=g.nx) (iR:=iR) (R:=R) (S_:=S_) (b:=b) (gr:=gr) (va:=va) (ca:=ca) (wa:=wa) (f:=f) (rowsS:=(Vs.set k R).map fun v=>[v]) hva hca hF.cl hF.vl hF.cb hF.nd hF.vr e11 e13 hS2 hgV2 vR (fun e=>by have:=hp.sq _ e;omega) ⟨by omega,by omega⟩ ⟨by omega,by omega,by omega⟩
   ⟨by simp[St,AT,sx,h13,h12,h11,h2,h4,h45,h46,h47,S.aa,List.drop_of_length_le (show f.cards.length<=f.vars.length by rw[hF.cl];exact Nat.le_refl _)],Nat.le_refl _,fun _ _ _=>rfl,List.replicate m 0,hR2,by simp,fun j y hj hy=>?_⟩ (by simp[sx]) ?_
  ·have:=(List.getElem?_eq_some_iff.1 hy).1
   omega
  clear h13 h12 h11 h2 h4 h45 h46 h47
  rintro t g3 ⟨⟨h13,h12,h14,h11,h2,h4,h45,h46,h47,-⟩,n3,f3,X,hX,hXo⟩
  simp only[sx,sy,↓reduceIte]
  have hfin:∀i,i<g.nx->vid S_≠some i->g3.h.get i=g.h.get i:=fun i h1 h2=>by
   rw[f3 i (by omega) (by omega),f2 i (by omega) h2,f1 i h1]
  refine ⟨⟨by simp[St,h11,h2,h4,h45],?_⟩,h47,h46⟩
  have hsl:∀i,i<2\/i=q->vid S_≠some i:=fun i hi e=>by
   have:=hp.sq i e
   have:=(hS.lt e).1
   omega
  refine ⟨by rw[hfin 0 (by omega) (hsl 0 (by omega)),hp.h0],by rw[hfin 1 (by omega) (hsl 1 (by omega)),hp.h1],by rw[hfin q q2b (hsl q (by omega)),hp.hq],⟨q2a,by omega⟩,hp.sq,Vs.set k R,l++[X],hS2.fr n3 fun i hi=>f3 i (hS2.lt hi).2 fun e=>by have:=hp.sq i hi;omega,by simpa using hVl,by simp[hll],?_,?_⟩
  ·have htk:(Vs.set k R).take (k+1)=Vs.take k++[R]:=by
    rw[List.take_add_one,List.take_set_of_le (Nat.le_refl _),List.getElem?_set_self (by omega)]
    rfl
   rw[htk]
   refine (hal.mono fun X' v r=>?_).append ⟨?_,trivial⟩
   ·exact r.fr (by omega) fun i hi=>by
     have:=r.lt hi
     exact hfin i this.2 fun e=>by have:=hp.sq i e;omega
   ·rcases hX with h | ⟨id,ep,lo,p1,p2,rfl,p4⟩
    ·exact .inl h
    ·injection vR with vR
     exact .inr ⟨id,ep,lo,by omega,p2,rfl,p4⟩
  ·intro i f' X' hf' hX'
   by_cases hi:i<l.length
   ·rw[List.getElem?_append_left hi] at hX'
    exact hst i f' X' hf' hX'
   ·have h1:=(List.getElem?_eq_some_iff.1 hX').1
    have:i=k:=by simp at h1;omega
    subst this
    rw[hf] at hf';injection hf' with hf';subst hf'
    rw[List.getElem?_append_right (by omega),hll,Nat.sub_self] at hX'
    simp at hX'
    subst hX'
    exact hXo
 ·rintro t df g ⟨rfl,h⟩
  exact fin t g h
theorem Kb (n:Net)(ls:List (List Int)):Snb (J8 n ls) 2:=jN fun y=>bN (m:=2) (dy _) (aO _) (by decide) (by decide)
def qn0:QnM:=(⟨0,[]⟩,[],[])
theorem H4 (P:Nat->Prop)(h:H):Agg qn0 P 0 h (.agg [.int .i64 0,.nils,.nils,.nils]):=⟨_,rfl,rm.2 ⟨.nils,.nils,.nils,rfl,⟨by show 0<9223372036854775808;decide,rfl⟩,⟨by show 0<9223372036854775808;decide,rfl⟩,⟨by show 0<9223372036854775808;decide,rfl⟩⟩⟩
theorem Cj {a b c w:AV}(h:w.cells=[w])(h2:w.isTup=false)(h3:b.cells=[b])(h4:b.isTup=false):dv [.int .i64 0,.nils,.nils,.nils] [((0,2),.agg [a,c]),((2,1),b),((3,1),w)]=some [a,c,b,w]:=by
 have k1:(AV.agg [a,c]).cells=[a,c]:=rfl
 have k2:(AV.agg [a,c]).isTup=false:=rfl
 simp[dv,h,h2,h3,h4,cU,k1,k2]
 rfl
theorem IM {d kk:Nat}{P:Nat->Prop}{g:G}{v w:AV}{n:Net}{ls:List (List Int)}(hd:0<d)(hm:Agg n NoP 0 g.h v)(hw:SlR P kk g.h ls w):∃r,an C0 d N.aN [v,w] g=.val r/\J8 n ls NoP 0 .nil r:=by
 obtain ⟨b,rows,rfl,e1,hm',hN,r1,r2,r3,r4⟩:=jk d hm
 obtain ⟨w',e2,hw'⟩:=dR hw d
 obtain ⟨wrows,p1,p2,p3,p4⟩:=(hw' .nil).all
 have p1:∀h',am h' 1 w'=some wrows:=p1
 have hwl:=hw.1
 have wl:=fun g=>(hw' .nil).len g
 rw[wZ]
 refine ba Af (xs:=[.agg [.int .i64 n.grain,b],w']) (by simp only[aB,e1,e2]) (by simp[pU]) (Kb n ls) (by decide) hd ?_
 simp only[sz,simprocAttr,pU]
 obtain ⟨g0,hg0⟩:∃g0,g0=(G.empty.new (.cells 2 [[.int .i64 n.grain,b]] 0 false false)).new (.cells 4 [[.int .i64 0,.nils,.nils,.nils]] 0 false false):=⟨_,rfl⟩
 rw[<-hg0]
 have f0:g0.h.get 0=.cells 2 [[.int .i64 n.grain,b]] 0 false false:=by rw[hg0];simp[sx,H.get_put]
 have f1:g0.h.get 1=.cells 4 [[.int .i64 0,.nils,.nils,.nils]] 0 false false:=by rw[hg0];simp[sx]
 have f2:g0.nx=2:=by rw[hg0];simp[sx]
 clear hg0
 simp only[q_]
 obtain ⟨z,ez,fs,⟨hfl,hfs⟩,fl,er,rfl,hfl2,her⟩:=JX (d:=d+1) (g:=g0) (Nat.succ_pos d) (hm' g0.h)
 have her:=ay.1 her
 injection her with her
 subst her
 obtain ⟨_,e3,hfl2⟩:=hfl2
 injection e3 with e3;subst e3
 cases hn:S.aN n with
 | false =>
  have hs:S.aZ n ls=50:=by rw[S.aZ,hn];rfl
  rw[hn] at ez
  simp only[Bool.false_eq_true,↓reduceIte] at ez
  simp only[sz,simprocAttr,f0,ez,show ¬((50:Int)=0) from by decide,f1]
  refine ⟨fun _=>True,qn0,?_,_,_,rfl,?_,?_⟩
  ·rw[hs];intro h;cases h
  ·exact H4 _ _
  ·rw[hs];exact ay.2 rfl
 | true =>
  have hr:=dW.1 hn
  have hfl:=hfl hn
  rw[hn] at ez
  simp only[↓reduceIte] at ez
  refine cV (P:=fun t' df g'=>df=[]/\g'=g0/\St t' [(1,w'),(2,.hptr 0 0 0 0),(4,.hptr 1 0 0 0),(6,fl),(7,.int .i64 0)]) ?_ ?_
  ·simp only[sz,simprocAttr,f0,ez]
   simp[St,sx]
  rintro t df g1 ⟨rfl,rfl,h1,h2,h4,h6,h7,-⟩
  obtain ⟨Qf,hQf⟩:∃Qf,Qf=fnQ C0 (d+1) [SR.cell true 4 4,SR.tm 5] (fun v g'=>∃P,J8 n ls P 0 g'.h v):=⟨_,rfl⟩
  rw[<-hQf]
  simp only[sz,simprocAttr,h1,h7,wl,qv]
  refine aJ (m:=ls.length) hwl (fun j t df g=>df=[]/\St t [(25,w'),(2,.hptr 0 0 0 0),(4,.hptr 1 0 0 0),(6,fl)]/\g=g1/\∀e∈ls.take j,S.aJ n e=true) ⟨rfl,by simp[St,sx,h2,h4,h6],rfl,by simp⟩ (by simp[sx]) (by simp[sx]) (by decide)
   (by rintro j t df g v s (rfl | rfl | rfl) ⟨a1,⟨b1,b2,b3,b4,-⟩,c1,c2⟩<;>exact ⟨a1,by simp[St,sx,b1,b2,b3,b4],c1,c2⟩) ?_ ?_
  ·rintro j t df g hj ⟨rfl,⟨h25,h2,h4,h6,-⟩,rfl,hall⟩ h27 h26
   obtain ⟨e,he,htk,hem⟩:=au hj
   obtain ⟨row,q1,q2⟩:=p3 j e he
   obtain ⟨z,rfl,hz⟩:=iQ.1 q2
   have hlt:j<wrows.length:=by omega
   have hch:=Hi (d:=d+1) (g:=g) (e:=e) (w:=z) (Nat.succ_pos d) (hm' g.h) (hz.tree (h':=g.h) (Nat.le_refl _))
   cases hev:S.aJ n e with
   | true =>
    have hs:S.aB n e=0:=by rw[S.aB,hn,hev];rfl
    rw[hs] at hch
    simp only[sz,simprocAttr,h25,h27,h26,h2,p1,hlt,q1,f0,hch]
    refine ⟨by simp[St,sx,h2,h4,h6,h25],fun y hy=>?_⟩
    rw[htk] at hy
    rcases List.mem_append.1 hy with h | h
    ·exact hall y h
    ·rw[List.mem_singleton.1 h];exact hev
   | false =>
    have hs:S.aB n e=2:=by rw[S.aB,hn,hev];rfl
    have hs2:S.aZ n ls=2:=by
     have:ls.all (S.aJ n)=false:=by
      rw[<-Bool.not_eq_true,List.all_eq_true]
      intro h
      rw[h e hem] at hev;cases hev
     rw[S.aZ,hn,this];rfl
    rw[hs] at hch
    rw[hQf]
    simp only[sz,simprocAttr,h25,h27,h2,h4,p1,hlt,q1,f0,f1,hch,show ¬((2:Int)=0) from by decide]
    refine ⟨fun _=>True,qn0,?_,_,_,rfl,?_,?_⟩
    ·rw[hs2];intro h;cases h
    ·exact H4 _ _
    ·rw[hs2];exact ay.2 rfl
  ·rintro t df g ⟨rfl,⟨h25,h2,h4,h6,-⟩,rfl,hall⟩
   rw[List.take_length] at hall
   have hs:S.aZ n ls=0:=by rw[S.aZ,hn,List.all_eq_true.2 hall];rfl
   have hl8:=hr.l2
   have fll:=fun g=>hfl2.len g
   simp only[sx,↓reduceIte]
   unfold pS
   refine cV (P:=fun t' df g'=>df=[]/\∃S_ q,St t' [(2,.hptr 0 0 0 0),(4,.hptr 1 0 0 0),(6,fl),(11,.hptr q 0 0 0)]/\AskH n.grain b fl S_ n.nodes.length q fs 0 g') ?_ ?_
   ·simp only[sz,simprocAttr,sf,h2,h6,f0,fll,hfl]
    refine jd (b:=2) (n:=n.nodes.length) (by unfold a_;omega) (by unfold a_;omega) (by first | (simp;done) | (simp;omega)) fun S_ g2 hS n2 f2' vS lg2=>?_
    simp only[sy] at n2 f2' vS lg2
    have hflc:fl.cells=[fl]/\fl.isTup=false:=by
     have h:=hfl2.2
     unfold SlV at h
     split at h<;>first | exact ⟨rfl,rfl⟩ | exact h.elim
    simp only[sz,simprocAttr,sf,Cj hS.cell.1 hS.cell.2 hflc.1 hflc.2,lg2]
    have n2':g.nx+5=g2.nx:=by omega
    have k0:g2.h.get 0=.cells 2 [[.int .i64 n.grain,b]] 0 false false:=by rw[f2' 0 (by omega),f0]
    have k1:g2.h.get 1=.cells 4 [[.int .i64 0,.nils,.nils,.nils]] 0 false false:=by rw[f2' 1 (by omega),f1]
    refine ⟨?_,S_,g2.nx+1+1,by simp[St,sx,h2,h4,h6],⟨?_,?_,?_,⟨by omega,by simp⟩,fun i hi=>by have:=br vS hi;omega,List.replicate n.nodes.length .nils,[],?_,by simp,rfl,trivial,fun i f X _ h=>by simp at h⟩⟩
    ·simp only[List.reverse_cons,List.reverse_nil,List.nil_append,List.cons_append,G.new_lg,G.put_lg,setLog_lg]
     refine aL [false,false,false,false,true,false,true,true] [(0,4),(1,4),(0,6),(1,6),(2,6),(3,6),(4,6),(5,6)] (by simp[All2,ae,aA]) (by decide) ?_
     rintro p hp' x y hx hy
     simp only[List.mem_cons,List.not_mem_nil,or_false] at hp'
     rcases hp' with rfl | rfl | rfl | rfl | rfl | rfl | rfl | rfl<;>(simp at hx hy;subst hx;subst hy;refine eH rfl rfl rfl rfl ?_ ?_ ?_<;>simp[ae,aA,ak]<;>omega)
    ·simp[H.get_put,k0]
    ·simp[H.get_put,k1]
    ·simp[H.get_put]
    ·have hS':Own g2 2 S_ 1 ((List.replicate n.nodes.length AV.nils).map fun v=>[v]):=by simpa using hS
     refine hS'.fr (by simp;omega) fun i hi=>?_
     have:=br vS hi
     simp[H.get_put,show ¬i=g2.nx+1+1 by omega]
   clear h25 h2 h4 h6
   rintro t df g2 ⟨rfl,S_,q,⟨h2,h4,h6,h11,-⟩,hp⟩
   have hbl:=hN.len
   simp only[sz,simprocAttr,h6,fll,hfl]
   refine L4 (m:=n.nodes.length) (q:=q) (gr:=n.grain) (b:=b) (fl:=fl) (S_:=S_) (fs:=fs) hbl hl8 hfl2 hfl (fun i f hf=>?_) ⟨by simp[St,sx,h2,h4,h11],hp⟩ (by simp[sx]) (by simp[sx]) ?_
   ·have hi:=(List.getElem?_eq_some_iff.1 hf).1
    obtain ⟨x,hx,-,-⟩:=au (l:=n.nodes) (j:=i) (by omega)
    obtain ⟨p,hpp,hf2⟩:=hfs i x hi hx
    rw[hf] at hf2;injection hf2 with hf2;subst hf2
    exact Ju hr hx hpp
   clear h2 h4 h6 h11 hp
   rintro t g3 ⟨⟨h11,h2,h4,h45,-⟩,hp⟩
   obtain ⟨Vs,l,hS,hVl,hll,hal,hst⟩:=hp.hS
   rw[List.take_of_length_le (by omega)] at hal
   rw[hQf]
   have q2:=hp.q2.1
   simp only[sz,simprocAttr,pB,h11,h4,hp.hq,hp.h1]
   have hne:∀i,i≠1->(g3.h.put 1 (.cells 4 [[.int .i64 n.grain,b,fl,S_]] 0 false false)).get i=g3.h.get i:=fun i hi=>by simp[H.get_put,hi]
   refine ⟨fun _=>True,(n,fs,l),fun _=>⟨rfl,hfl,hfs,hll,hst⟩,_,_,rfl,⟨_,rfl,rm.2 ⟨b,fl,S_,rfl,hN.wide (Nat.le_refl 0),hfl2.wide (Nat.le_refl 0),?_⟩⟩,?_⟩
   ·have hS':Own (g3.put 1 (.cells 4 [[.int .i64 n.grain,b,fl,S_]] 0 false false)) 2 S_ 1 (Vs.map fun v=>[v]):=hS.fr (by simp) fun i hi=>by
     have:=(hS.lt hi).1
     simp[H.get_put,show ¬i=1 by omega]
    refine Own.sl (α:=List Int) hS' (by show l.length<_;omega) ?_ fun _ _=>trivial
    have hal2:∀(l:List (List Int)) (Vs:List AV),All2 (fun X v=>Own g3 (q+1) v 1 (X.map ci)) l Vs->(∀X∈l,X.length<9223372036854775808)->All2 (Rp.rp (fun _=>True) 0 (g3.put 1 (.cells 4 [[.int .i64 n.grain,b,fl,S_]] 0 false false)).h) l (Vs.map fun v=>[v]):=by
     intro l
     induction l with
     | nil=>intro Vs h _;cases Vs with
      | nil=>trivial
      | cons v Vs=>exact h.elim
     | cons X l ih=>intro Vs h hX;cases Vs with
      | nil=>exact h.elim
      | cons v Vs =>
       refine ⟨?_,ih Vs h.2 fun Y hY=>hX Y (by simp[hY])⟩
       have ho:Own (g3.put 1 (.cells 4 [[.int .i64 n.grain,b,fl,S_]] 0 false false)) (q+1) v 1 (X.map ci):=h.1.fr (by simp) fun i hi=>by
        have:=(h.1.lt hi).1
        simp[H.get_put,show ¬i=1 by omega]
       obtain ⟨_,e1,hh⟩:=ho.ints (k:=0) (hX X (by simp))
       exact iQ.2 ⟨_,e1,hh⟩
    refine hal2 l Vs hal fun X hX=>?_
    obtain ⟨i,hi,he⟩:=List.mem_iff_getElem.1 hX
    have:=(hst i _ X (List.getElem?_eq_getElem (show i<fs.length by omega)) (by rw[List.getElem?_eq_getElem hi,he])).1
    omega
   ·rw[hs];exact ay.2 rfl
theorem Au {α:Type}{l:List α}{i:Nat}{x y:α}(h1:l[i]?=some x)(h2:l[i]?=some y):x=y:=by rw[h1] at h2;injection h2
structure WtI (y:QnM) (b fl S_ wv va ca wa:AV) (gr wt:Int) (p:Int) (cards pv:List Int) (m k fb i:Nat) (t:T) (g:G):Prop where
 st:St t [(1,wv),(2,.hptr 0 0 0 0),(12,fl),(13,.int .i64 (m:Int)),(14,.int .i64 (k:Int)),(5,.int .i64 wt),(6,.int .i64 (k:Int)),(7,.hptr fb 0 0 0),(20,va),(8,.int .i64 (p - S.ah (cards.drop i) (pv.drop i)))]
 h0:g.h.get 0=.cells 4 [[.int .i64 gr,b,fl,S_]] 0 false false
 hf:g.h.get fb=.cells 3 [[va,ca,wa]] 0 false false
 nn:0<=p - S.ah (cards.drop i) (pv.drop i)
 nx:1<=g.nx
theorem Gw {d m k fb kv kz:Nat}{y:QnM}{b fl S_ wv va ca wa:AV}{gr wt p:Int}{f:Factor}{R vals:List Int}{mm:Nat}{Q:QT}{t:T}{g:G}(hva:SlR NoP kv .nil f.vars va)(hF:FOk mm f)(hR:S.bC mm f 0 R)(hvl:vals.length=mm)
  (hS:∃(srows:List (List AV)) (z:AV),(∀h,am h 1 S_=some srows)/\srows[k]?=some [z]/\k<srows.length/\SlR NoP kz .nil R z) (rv:∀h,am h 1 wv=some (vals.map ci)) (hp:p=S.ah f.cards (S.ae vals f.vars)) (hin:InC f.cards (S.ae vals f.vars)) (hpb:p<=10000000)
  (h0:WtI y b fl S_ wv va ca wa gr wt p f.cards (S.ae vals f.vars) m k fb 0 t g) (h22:tat t 22=.int .i64 0) (h21:tat t 21=.int .i64 (f.vars.length:Int))
  (fin:∀t g,WtI y b fl S_ wv va ca wa gr wt p f.cards (S.ae vals f.vars) m k fb f.vars.length t g->Q (.exit 2) t [] g):wpL (wp C0 d none cG) Q t [] g:=by
 obtain ⟨srows,z,s1,s2,s3,hz⟩:=hS
 have rva:=fun h=>(hva.tree (h':=h) (Nat.le_refl _)).ints
 have rz:=fun h=>(hz.tree (h':=h) (Nat.le_refl _)).ints
 simp only[cG]
 refine aJ (m:=f.vars.length) hva.1 (fun i t df g=>df=[]/\WtI y b fl S_ wv va ca wa gr wt p f.cards (S.ae vals f.vars) m k fb i t g) ⟨rfl,h0⟩ h22 h21 (by decide)
  (by rintro j t df g v s (rfl | rfl | rfl) ⟨a1,⟨b1,b2,b3,b4,b5,b6,b7,b8,b9,b10,-⟩,c1,c2,c3,c4⟩<;>exact ⟨a1,by simp[St,sx,b1,b2,b3,b4,b5,b6,b7,b8,b9,b10],c1,c2,c3,c4⟩) ?_ ?_
 ·rintro i t df g hi ⟨rfl,⟨h1,h2,h12,h13,h14,h5,h6,h7,h20,h8,-⟩,e0,ef,hnn,hnx⟩ h22 h21
  obtain ⟨u,hu,-,hum⟩:=au hi
  obtain ⟨hu0,hum⟩:=hF.vr u hum
  obtain ⟨un,rfl⟩:=Int.eq_ofNat_of_zero_le hu0
  have hcl:=hF.cl
  have hdr:f.cards.drop i=f.cards[i]::f.cards.drop (i+1):=List.drop_eq_getElem_cons (by omega)
  have hval:vals[un]?=some vals[un]:=List.getElem?_eq_getElem (by omega)
  have hpvi:(S.ae vals f.vars)[i]?=some vals[un]:=by simp[S.ae,hu,hval]
  have hdp:(S.ae vals f.vars).drop i=vals[un]::(S.ae vals f.vars).drop (i+1):=by
   have hl:i<(S.ae vals f.vars).length:=by rw[dX];exact hi
   rw[List.drop_eq_getElem_cons hl]
   rw[List.getElem?_eq_getElem hl] at hpvi
   injection hpvi with hpvi
   rw[hpvi]
  have hv0:0<=vals[un]:=by
   obtain ⟨v',h1,h2,-⟩:=hin.get (i:=i) (c:=f.cards[i]) (List.getElem?_eq_getElem (by omega))
   rw[Au hpvi h1];exact h2
  generalize vals[un]=x at hval hpvi hdp hv0
  have hRu:=hR.2 i (un:Int) (Nat.zero_le _) hu
  rw[Int.toNat_natCast] at hRu
  have hRl:=(List.getElem?_eq_some_iff.1 hRu).1
  have u1:i<(f.vars.map ci).length:=by simpa using hi
  have u2:(f.vars.map ci)[i]?=some (ci (un:Int)):=by rw[List.getElem?_map,hu];rfl
  have u3:un<(vals.map ci).length:=by simp;omega
  have u4:(vals.map ci)[un]?=some (ci x):=by rw[List.getElem?_map,hval];rfl
  have u5:un<(R.map ci).length:=by simpa using hRl
  have u6:(R.map ci)[un]?=some (ci (S.aa (f.cards.drop (i+1)))):=by rw[List.getElem?_map,hRu];rfl
  have hidx:S.ah (f.cards.drop i) ((S.ae vals f.vars).drop i)=x*S.aa (f.cards.drop (i+1))+S.ah (f.cards.drop (i+1)) ((S.ae vals f.vars).drop (i+1)):=by rw[hdr,hdp,S.ah]
  have hb1:=bV (cards:=f.cards.drop (i+1)) (vals:=(S.ae vals f.vars).drop (i+1)) (fun c hc=>hF.cb c (List.mem_of_mem_drop hc)) (hin.drop (i+1))
  have hb2:=bV (cards:=f.cards.drop i) (vals:=(S.ae vals f.vars).drop i) (fun c hc=>hF.cb c (List.mem_of_mem_drop hc)) (hin.drop i)
  have hpp:=aW (cs:=f.cards.drop (i+1)) fun c hc=>(hF.cb c (List.mem_of_mem_drop hc)).1
  have hxs:0<=x*S.aa (f.cards.drop (i+1)):=Int.mul_nonneg hv0 (by omega)
  have w1:IntKind.wrap .i64 (x*S.aa (f.cards.drop (i+1)))=x*S.aa (f.cards.drop (i+1)):=aC (by omega) (by omega)
  have w2:IntKind.wrap .i64 (p - S.ah (f.cards.drop i) ((S.ae vals f.vars).drop i)+x*S.aa (f.cards.drop (i+1)))=p - S.ah (f.cards.drop (i+1)) ((S.ae vals f.vars).drop (i+1)):=by
   rw[aC (by omega) (by omega)];omega
  simp only[sz,simprocAttr,h1,h2,h6,h8,h20,h22,h21,e0,rva,u1,u2,rv,u3,u4,s1,s2,s3,rz,u5,u6,ci,w1,w2]
  refine ⟨by simp[St,sx,h1,h2,h12,h13,h14,h5,h6,h7,h20],e0,ef,by omega,by first | exact hnx | (simp;done) | (simp;omega)⟩
 ·rintro t df g ⟨rfl,h⟩
  exact fin t g h
structure WtJ (n:Net) (vals:List Int) (b fl S_ wv:AV) (k:Nat) (t:T) (g:G):Prop where
 st:St t [(1,wv),(2,.hptr 0 0 0 0),(12,fl),(5,.int .i64 (S.aa ((List.range k).map (S.aw n vals))))]
 h0:g.h.get 0=.cells 4 [[.int .i64 n.grain,b,fl,S_]] 0 false false
 nx:1<=g.nx
theorem GT {d kk ky:Nat}{P:Nat->Prop}{g:G}{v w:AV}{n:Net}{y:QnM}{vals:List Int}(hd:0<d)(hr:NR n)(hm:Agg y NoP ky g.h v)(hq:QnOk n y)(hv:SlR P kk g.h vals w)(hc:InC (S.ac n) vals) :
  an C0 d N.aY [v,w] g=.val (.int .i64 (S.aI n vals)):=by
 have e0:=cq d hm
 obtain ⟨cs,rfl,hcs⟩:=hm
 obtain ⟨b,fl,S_,rfl,hN,hfl,hS⟩:=rm.1 hcs
 have hfl:SlR NoP ky .nil y.2.1 fl:=hfl.tree (Nat.le_refl _)
 have hS:SlR NoP ky .nil y.2.2 S_:=hS.tree (Nat.le_refl _)
 obtain ⟨w',e2,hw'⟩:=dR hv d
 have hgr:y.1.grain=n.grain:=by rw[hq.net]
 obtain ⟨frows,f1,f2,f3,f4⟩:=hfl.all
 have f1:∀h',am h' 3 fl=some frows:=f1
 obtain ⟨srows,s1,s2,s3,s4⟩:=zD hS
 have rv:=fun h=>(hw' h).ints
 have hvl:=hc.len
 rw[aG] at hvl
 have hl8:=hr.l2
 have hfll:=hq.fl
 rw[lC]
 refine lN mo (xs:=[.agg [.int .i64 y.1.grain,b,fl,S_],w']) (by simp only[aB,e0,e2]) (by simp[dP]) hd ?_
 rw[hgr]
 have ll:=hfl.len
 simp only[sz,simprocAttr,dP,fu,ll,hfll]
 simp only[eJ,e_]
 refine aJ (m:=n.nodes.length) (by omega) (fun k t df g=>df=[]/\WtJ n vals b fl S_ w' k t g) ⟨rfl,by simp[St,sx,S.aa],by simp[sx],by simp⟩ (by simp[sx]) (by simp[sx]) (by decide)
  (by rintro j t df g v s (rfl | rfl | rfl) ⟨a1,⟨b1,b2,b3,b4,-⟩,c1,c2⟩<;>exact ⟨a1,by simp[St,sx,b1,b2,b3,b4],c1,c2⟩) ?_ ?_
 ·rintro k t df g hk ⟨rfl,⟨h1,h2,h12,h5,-⟩,g0,hnx⟩ h14 h13
  obtain ⟨x,hx,-,-⟩:=au hk
  obtain ⟨p,hp,hf⟩:=hq.fs k x (by omega) hx
  obtain ⟨row,q1,q2⟩:=f3 k _ hf
  obtain ⟨va,ca,wa,rfl,hva,hca,hwa⟩:=aX.1 q2
  have hF:=Ju hr hx hp
  obtain ⟨pn,i1,i2,i3⟩:=L0 hr hc hx p
  have hlt:k<frows.length:=by omega
  have hry:=f4 (by omega)
  obtain ⟨R,hR,-,-⟩:=au (l:=y.2.2) (j:=k) (by rw[hq.sl];exact hk)
  obtain ⟨z,z1,z2,z3⟩:=s3 k R hR
  have hinp:InC (S.aO n k x p).cards (S.ae vals (S.aO n k x p).vars):=du hc fun u hu=>by rw[aG];exact xg hr hx p u hu
  have hib:=bV hF.cb hinp
  have hpb:=bE (l:=(S.aO n k x p).cards) hF.cb
  have hfv:=hF.vl
  have hp4:=cz (a:=(S.aO n k x p).cards.length) (b:=9) (by
   have h1:=b_ (hr.places x (List.mem_of_getElem? hx)) (by omega)
   have h3:=qB x.parents p (k:Int) hp
   show (S.ae _ _).length<=9
   rw[dX];omega)
  have h48:(4:Int) ^ 9=262144:=by decide
  have ei:S.ah (S.aO n k x p).cards (S.ae vals (S.aO n k x p).vars)=(pn:Int):=i1
  have lva:=hva.len
  have rwa:=fun h=>(hwa.tree (h':=h) (Nat.le_refl _)).ints
  refine bk (P:=fun t' df g'=>df=[]/\g'=(g.new (.cells 3 [[.nils,.nils,.nils]] 0 false false)).put g.nx (.cells 3 [[va,ca,wa]] 0 false false)/\St t' [(1,w'),(2,.hptr 0 0 0 0),(12,fl),(13,.int .i64 (n.nodes.length:Int)),(14,.int .i64 (k:Int)),(5,.int .i64 (S.aa ((List.range k).map (S.aw n vals)))),(6,.int .i64 (k:Int)),(7,.hptr g.nx 0 0 0)]) ?_ ?_
  ·simp only[sz,simprocAttr,h14,h12,f1,hlt,q1]
   simp[St,sx,h1,h2,h12,h13,h14,h5]
  clear h1 h2 h12 h5 h14 h13
  rintro t df g1 ⟨rfl,hg1,⟨h1,h2,h12,h13,h14,h5,h6,h7,-⟩⟩
  have k0:g1.h.get 0=.cells 4 [[.int .i64 n.grain,b,fl,S_]] 0 false false:=by rw[hg1];simp[H.get_put,show ¬0=g.nx by omega,g0]
  have k1:g1.h.get g.nx=.cells 3 [[va,ca,wa]] 0 false false:=by rw[hg1];simp[H.get_put]
  have kn:g1.nx=g.nx+1:=by rw[hg1];simp
  simp only[sz,simprocAttr,h7,k1,lva]
  refine Gw (y:=y) (b:=b) (fl:=fl) (S_:=S_) (wv:=w') (va:=va) (ca:=ca) (wa:=wa) (gr:=n.grain) (wt:=S.aa ((List.range k).map (S.aw n vals))) (p:=(pn:Int)) (f:=S.aO n k x p) (R:=R) (vals:=vals) (mm:=n.nodes.length) (m:=n.nodes.length) (k:=k) (fb:=g.nx) hva hF (hq.st k _ R hf hR) hvl ⟨srows,z,s1,z1,z2,z3⟩ rv ei.symm hinp (by omega)
   ⟨by simp[St,sx,h1,h2,h12,h13,h14,h5,h6,h7,ei],by simpa using k0,by simpa using k1,by simp[ei],by omega⟩ (by simp[sx]) (by simp[sx]) ?_
  clear h1 h2 h12 h13 h14 h5 h6 h7
  rintro t g2 ⟨⟨h1,h2,h12,h13,h14,h5,h6,h7,h20,h8,-⟩,k0,k1,-,hnx2⟩
  have hnil:S.ah ((S.aO n k x p).cards.drop (S.aO n k x p).vars.length) ((S.ae vals (S.aO n k x p).vars).drop (S.aO n k x p).vars.length)=0:=by
   rw[List.drop_of_length_le (by rw[hF.cl];exact Nat.le_refl _)];rfl
  rw[hnil,Int.sub_zero] at h8
  have u1:pn<((S.aO n k x p).w.map ci).length:=by
   rw[List.length_map]
   exact (List.getElem?_eq_some_iff.1 i3).1
  have u2:((S.aO n k x p).w.map ci)[pn]?=some (ci (S.aw n vals k)):=by rw[List.getElem?_map];exact congrArg (Option.map ci) i3
  have wb:=lY hr hc (j:=k+1) (by omega)
  have ws:=rJ n vals k
  have w1:IntKind.wrap .i64 (S.aa ((List.range k).map (S.aw n vals))*S.aw n vals k)=S.aa ((List.range (k+1)).map (S.aw n vals)):=by rw[<-ws,aC (by omega) (by omega)]
  simp only[sz,simprocAttr,eS,h5,h7,k1,h8,rwa,u1,u2,ci,w1]
  exact ⟨⟨by simp[St,sx,h1,h2,h12],k0,hnx2⟩,h14,h13⟩
 ·rintro t df g ⟨rfl,⟨h1,h2,h12,h5,-⟩,g0,hnx⟩
  simp only[sz,simprocAttr,eC,h5]
  rfl
def S.bp (vals e:List Int)(i:Nat):Bool:=decide (e[i]?.getD 0 = -1) || decide (e[i]?.getD 0=vals[i]?.getD 0)
def S.jm (vals e:List Int):Bool:=(List.range e.length).all (S.bp vals e)
theorem D8 {vals e:List Int}(h:∀x∈e,-1<=x):S.jm vals e=S.aU vals e:=by
 have key:S.bp vals e=S.bj vals e:=by
  funext i
  have h1:-1<=e[i]?.getD 0:=by
   cases hx:e[i]? with
   | none=>decide
   | some x=>exact h x (List.mem_of_getElem? hx)
  unfold S.bp S.bj
  generalize e[i]?.getD 0=x at h1
  congr 1
  rw[decide_eq_decide]
  omega
 rw[S.jm,S.aU,key]
theorem CA {d k k2:Nat}{g:G}{P P2:Nat->Prop}{v w:AV}{vals e:List Int}(hd:0<d)(hv:SlR P k g.h vals v)(hw:SlR P2 k2 g.h e w)(hl:e.length<=vals.length) :
  an C0 d N.bj [v,w] g=.val (.bool (S.jm vals e)):=by
 obtain ⟨v',e1,r1⟩:=dR hv d
 obtain ⟨w',e2,r2⟩:=dR hw d
 have ra:∀h',am h' 1 v'=some (vals.map ci):=fun h'=>(r1 h').ints
 have rb:∀h',am h' 1 w'=some (e.map ci):=fun h'=>(r2 h').ints
 have n2:=fun g=>(r2 .nil).len g
 rw[rD]
 refine mY t5 (xs:=[v',w']) (by simp only[aB,e1,e2]) (by simp[jr]) hd ?_
 simp only[sz,simprocAttr,jr,j8,n2]
 refine aJ (m:=e.length) hw.1 (fun j t df g=>df=[]/\St t [(0,v'),(8,w'),(5,.bool true)]/\(List.range j).all (S.bp vals e)=true) ⟨rfl,by simp[St,sx],rfl⟩ (by simp[sx]) (by simp[sx]) (by decide) (by rintro j t df g v s (rfl | rfl | rfl)<;>simp[St,sx]) ?_ ?_
 ·rintro j t df g hj ⟨rfl,⟨h0,h8,h5,-⟩,hA⟩ h10 h9
  obtain ⟨x,hx,-,-⟩:=au hj
  obtain ⟨z,hz,-,-⟩:=au (l:=vals) (j:=j) (by omega)
  have q1:j<(e.map ci).length:=by simpa using hj
  have q2:j<(vals.map ci).length:=by rw[List.length_map];omega
  have q3:(e.map ci)[j]?=some (ci x):=by rw[List.getElem?_map,hx];rfl
  have q4:(vals.map ci)[j]?=some (ci z):=by rw[List.getElem?_map,hz];rfl
  have hat:S.bp vals e j=(decide (x = -1) || decide (x=z)):=by simp[S.bp,hx,hz]
  by_cases c1:x = -1
  ·subst c1
   simp only[sz,simprocAttr,h10,h9,h8,rb,q1,q3,ci]
   refine ⟨by simp[St,sx,h0,h8,h5],?_⟩
   rw[pO,hA,hat];simp
  ·by_cases c2:x=z
   ·subst c2
    simp only[sz,simprocAttr,h10,h9,h8,h0,ra,rb,q1,q2,q3,q4,ci,c1]
    refine ⟨by simp[St,sx,h0,h8,h5],?_⟩
    rw[pO,hA,hat];simp
   ·have:S.bp vals e j=false:=by rw[hat];simp[c1,c2]
    have hf:S.jm vals e=false:=by rw[S.jm,vp hj this]
    simp only[sz,simprocAttr,h10,h8,h0,ra,rb,q1,q2,q3,q4,ci,c1,c2,fY,hf]
 ·rintro t df g ⟨rfl,⟨h0,h8,h5,-⟩,hA⟩
  simp only[sz,simprocAttr,fY,h5]
  rw[S.jm,hA]
theorem Co {α:Type} [Rp α]{P:Nat->Prop}{k:Nat}{h:H}{l:List α}{w:AV}(hw:SlR P k h l w)(g:G):IE w g=.upd (.hptr g.nx 0 0 0) (g.new (.cells 1 [[w]] 0 false false)):=by
 rw[CM _ _ hw.cell.2,hw.cell.1];rfl
def Bp {α:Type} [Rp α](x:α)(sz:Nat):VS:=fun P k h v=>(∃id cs,v=.hptr id 0 0 0/\P id/\h.get id=.cells sz [cs] 0 false false/\Rp.rp P k h x cs)\/∃t cs,v=.tptr t sz [cs] 0 0/\t<=k/\Rp.rp NoP k .nil x cs
theorem pz {α:Type} [Rp α]{x:α}{sz:Nat}{P:Nat->Prop}{k:Nat}{h:H}{v:AV}{n:Nat}(d:Nat)(r:Bp x sz P k h v)(hn:Rp.dp α<=n)(hd:Rp.dp α<=20:=by decide):∃v',Hx.snap h d (n+1) v=some v'/\Bp x sz NoP (max k d) .nil v':=by
 rcases r with ⟨id,cs,rfl,-,hg,r⟩ | ⟨t,cs,rfl,ht,r⟩
 ·obtain ⟨cs',e,r'⟩:=Rp.snap (n:=n) d r hn (by show _<=24;omega)
  obtain ⟨m,e2,l2⟩:=Rp.tag (n:=af) r' (by show _<=24;omega)
  refine ⟨.tptr (Nat.max d (Nat.max m 0)) sz [cs'] 0 0,?_,.inr ⟨_,cs',rfl,?_,r'⟩⟩
  ·simp only[Hx.snap,hg,show Nat.beq 0 0=true from rfl,aB,e,c_,di,e2]
  ·show max d (max m 0)<=max k d
   omega
 ·exact ⟨.tptr t sz [cs] 0 0,rfl,.inr ⟨t,cs,rfl,by omega,Rp.mono r (fun i hi=>hi.elim) (by omega)⟩⟩
theorem sC {α:Type} [Rp α]{x:α}{sz:Nat}{k:Nat}{h:H}{v:AV}{n:Nat}(r:Bp x sz NoP k h v):∃m,bK (n+1) v=some m/\m<=k:=by
 rcases r with ⟨id,cs,rfl,hP,-⟩ | ⟨t,cs,rfl,ht,r⟩
 ·exact hP.elim
 ·exact ⟨t,rfl,ht⟩
def MtV (y:QnM)(e:List Int):VS:=fun P k h v=>∃p q,v=.clo N.am [] [p,q]/\Bp y 4 P k h p/\Bp e 1 P k h q
theorem Mo (y:QnM)(e:List Int):Snb (MtV y e) 2:=by
 refine ⟨fun {P k h v n} d r hn=>?_,fun {k h v n} r hn=>?_⟩
 ·obtain ⟨p,q,rfl,r1,r2⟩:=r
  obtain ⟨n,rfl⟩:∃q,n=q+2:=⟨n - 2,by omega⟩
  obtain ⟨p',e1,r1'⟩:=pz (n:=n) d r1 (Nat.le_trans (show Rp.dp QnM<=20 by decide) (by omega))
  obtain ⟨q',e2,r2'⟩:=pz (n:=n) d r2 (Nat.le_trans (show Rp.dp (List Int)<=20 by decide) (by omega))
  refine ⟨.clo N.am [] [p',q'],?_,p',q',rfl,r1',r2'⟩
  simp only[Hx.snap,aB] at e1 e2 ⊢
  rw[e1,e2]
 ·obtain ⟨p,q,rfl,r1,r2⟩:=r
  obtain ⟨n,rfl⟩:∃q,n=q+2:=⟨n - 2,by omega⟩
  obtain ⟨m1,e1,l1⟩:=sC (n:=n) r1
  obtain ⟨m2,e2,l2⟩:=sC (n:=n) r2
  refine ⟨Nat.max m1 (Nat.max m2 0),?_,by show max m1 (max m2 0)<=k;omega⟩
  show di (bK (n+1)) [p,q]=_
  simp only[di,e1,e2]
theorem uy {d kk:Nat}{g:G}{v w:AV}{y:QnM}{e:List Int}(hd:0<d)(hm:Agg y NoP 0 g.h v)(hw:SlR NoP kk g.h e w)(hk:kk<d:=by omega) :
  ∃cs z t1 t2,an C0 d N.aH [v,w] g=.val (.clo N.am [] [.tptr t1 4 [cs] 0 0,.tptr t2 1 [[z]] 0 0])/\Rp.rp NoP kk .nil y cs/\SlR NoP kk .nil e z:=by
 have e0:=cq d hm
 obtain ⟨cs,rfl,hc⟩:=hm
 obtain ⟨a,b,c,rfl,h1,h2,h3⟩:=rm.1 hc
 have key:∃r,an C0 d N.aH [.agg [.int .i64 y.1.grain,a,b,c],w] g=.val r/\MtV y e NoP kk .nil r:=by
  rw[jz]
  refine ba ki (xs:=[.agg [.int .i64 y.1.grain,a,b,c],w]) (by simp only[aB,e0,vH d hw]) (by simp[cR]) (Mo y e) (by decide) hk ?_
  simp only[sz,simprocAttr,cR,d_,Co hw]
  refine ⟨fun _=>True,_,_,rfl,.inl ⟨0,_,rfl,trivial,by simp[sx,H.get_put],Rp.tree hc (Nat.zero_le _)⟩,.inl ⟨1,[w],rfl,trivial,by simp[sx],?_⟩⟩
  exact ⟨w,rfl,hw.wide (Nat.le_refl _)⟩
 obtain ⟨r,hr,p,q,rfl,r1,r2⟩:=key
 rcases r1 with ⟨id,cs,rfl,hP,-⟩ | ⟨t,cs,rfl,ht,r1⟩
 ·exact hP.elim
 rcases r2 with ⟨id,cs,rfl,hP,-⟩ | ⟨t2,cs2,rfl,ht2,r2⟩
 ·exact hP.elim
 obtain ⟨z,rfl,hz⟩:=iQ.1 r2
 exact ⟨cs,z,t,t2,hr,r1,hz⟩
theorem AW {cs vs:List Int}(h:InC cs vs)(hc:∀c∈cs,1<=c){i:Nat}{x c:Int}(hi:vs[i]?=some x)(hci:cs[i]?=some c)(hx:x≠c - 1):InC cs (vs.take i++(x+1)::List.replicate (vs.length - (i+1)) 0):=by
 have hil:=(List.getElem?_eq_some_iff.1 hi).1
 have hl:=h.len
 refine xG (by simp;omega) fun j c' v hj hv=>?_
 obtain ⟨v',h1,h2,h3⟩:=h.get hj
 have hcp:=hc c' (List.mem_of_getElem? hj)
 by_cases h4:j<i
 ·rw[List.getElem?_append_left (by simp;omega),List.getElem?_take_of_lt h4] at hv
  rw[h1] at hv;injection hv with hv;omega
 ·rw[List.getElem?_append_right (by simp;omega)] at hv
  rw[List.length_take,Nat.min_eq_left (by omega)] at hv
  by_cases h5:j=i
  ·subst h5
   rw[Nat.sub_self] at hv
   simp at hv
   rw[hi] at h1;injection h1 with h1
   rw[hci] at hj;injection hj with hj
   omega
  ·obtain ⟨m,hm⟩:∃m,j - i=m+1:=⟨j - i - 1,by omega⟩
   rw[hm,List.getElem?_cons_succ] at hv
   have:=List.mem_of_getElem? hv
   rw[List.mem_replicate] at this
   omega
theorem AS {cs:List Int}(hc:∀c∈cs,1<=c):InC cs (List.replicate cs.length 0) :=
 xG (by simp) fun j c v hj hv=>by
  have:=List.mem_of_getElem? hv
  rw[List.mem_replicate] at this
  have:=hc c (List.mem_of_getElem? hj)
  omega
theorem sj {vs:List Int}{m:Nat}(h:m<vs.length):(vs.take (m+1)++List.replicate (vs.length - (m+1)) 0).set m 0=vs.take m++List.replicate (vs.length - m) 0:=by
 rw[List.take_succ_eq_append_getElem h,List.append_assoc,List.set_append_right _ _ (by simp;omega),List.length_take,Nat.min_eq_left (by omega),Nat.sub_self]
 rw[show vs.length - m=(vs.length - (m+1))+1 by omega,List.replicate_succ]
 rfl
theorem th {vs:List Int}{m:Nat}(h:m<vs.length)(y:Int):(vs.take (m+1)++List.replicate (vs.length - (m+1)) 0).set m y=vs.take m++y::List.replicate (vs.length - (m+1)) 0:=by
 rw[List.take_succ_eq_append_getElem h,List.append_assoc,List.set_append_right _ _ (by simp;omega),List.length_take,Nat.min_eq_left (by omega),Nat.sub_self]
 rfl
structure OdoJ (n:Net) (vs:List Int) (L:List (Nat×AV)) (u:AV) (g0:G) (m:Nat) (t:T) (g:G):Prop where
 st:tat t 6=.int .i64 ((m:Int) - 1)
 ss:St t L
 ow:Own g g0.nx u 1 ((vs.take m++List.replicate (vs.length - m) 0).map ci)
 mx:∀(j:Nat) (c:Int),m<=j->(S.ac n)[j]?=some c->vs[j]?.getD 0=c - 1
def LM (id:Nat)(gr:Int)(b fl S_ w u:AV)(k t1 t2:Nat):List (Nat×AV):=[(0,.yld id),(1,.tptr t1 4 [[.int .i64 gr,b,fl,S_]] 0 0),(2,.tptr t2 1 [[w]] 0 0),(4,u),(5,.int .i64 (k:Int))]
theorem F3 {d id k m t1 t2 ky:Nat}{n:Net}{b fl S_ w u:AV}{vs:List Int}{Q:QT}{t:T}{g g0:G}(hr:NR n)(hN:SlR NoP ky .nil n.nodes b)(hc:InC (S.ac n) vs)(hm:m<=n.nodes.length)
  (h0:OdoJ n vs (LM id n.grain b fl S_ w u k t1 t2) u g0 m t g)
  (fin:∀m' t g',m'<=n.nodes.length->OdoJ n vs (LM id n.grain b fl S_ w u k t1 t2) u g0 m' t g'->g.nx<=g'.nx->(∀i,vid u≠some i->g'.h.get i=g.h.get i)->(m'=0\/∃x c,vs[m' - 1]?=some x/\(S.ac n)[m' - 1]?=some c/\x≠c - 1/\0<m')->Q (.exit 2) t [] g') :
  wpL (wp C0 d none bB) Q t [] g:=by
 obtain ⟨rows,r1,r2,r3,r4⟩:=hN.all
 have r1:∀h',am h' 3 b=some rows:=r1
 have hvl:=hc.len
 rw[aG] at hvl
 have hl8:=hr.l2
 refine oC (fun m t df g'=>df=[]/\m<=n.nodes.length/\OdoJ n vs (LM id n.grain b fl S_ w u k t1 t2) u g0 m t g'/\g.nx<=g'.nx/\∀i,vid u≠some i->g'.h.get i=g.h.get i) m ⟨rfl,hm,h0,Nat.le_refl _,fun _ _=>rfl⟩ ?_
 rintro m t df g1 ⟨rfl,hm,⟨h6,⟨h0,h1,h2,h4,h5,-⟩,how,hmx⟩,hnx,hfr⟩
 simp only[bB]
 cases m with
 | zero =>
  have c1:¬((0:Int)<=((0:Nat):Int) - 1):=by omega
  simp only[sz,simprocAttr,h6,c1]
  refine fin 0 _ _ (Nat.zero_le _) ⟨?_,?_,?_,hmx⟩ ?_ ?_ (.inl rfl)
  ·simp[sx,h6]
  ·simp[St,LM,sx,h0,h1,h2,h4,h5]
  ·exact how
  ·exact hnx
  ·exact hfr
 | succ m =>
  have c1:(0:Int)<=((m+1:Nat):Int) - 1:=by omega
  have e1:((m+1:Nat):Int) - 1=(m:Int):=by omega
  rw[e1] at c1 h6
  obtain ⟨x,hx,-,-⟩:=au (l:=n.nodes) (j:=m) (by omega)
  obtain ⟨row,q1,q2⟩:=r3 m x hx
  obtain ⟨pa,ra,rfl,-,-⟩:=dx.1 q2
  have hlt:m<rows.length:=by omega
  have hry:=r4 (by omega)
  have hci:(S.ac n)[m]?=some x.card:=by simp[S.ac,hx]
  obtain ⟨v,hv,hv0,hv1⟩:=hc.get hci
  have hcx:=hr.card x (List.mem_of_getElem? hx)
  have u1:m<((vs.take (m+1)++List.replicate (vs.length - (m+1)) 0).map ci).length:=by simp;omega
  have u2:((vs.take (m+1)++List.replicate (vs.length - (m+1)) 0).map ci)[m]?=some (ci v):=by
   rw[List.getElem?_map,List.getElem?_append_left (by simp;omega),List.getElem?_take_of_lt (by omega),hv];rfl
  have ru:=how.rows
  have w1:IntKind.wrap .i64 (x.card - 1)=x.card - 1:=aC (by omega) (by omega)
  by_cases c2:v=x.card - 1
  ·simp only[sz,simprocAttr,h6,h1,h4,c1,ru,u1,u2,r1,hlt,q1,hry,sJ,cC,ci,w1,c2]
   refine bC (v:=u) (sz:=1) (n:=1) (i:=m) (off:=0) (x:=.int .i64 0) (row':=ci 0) how u2 rfl rfl rfl fun g4 hu4 n4 f4=>?_
   rw[<-List.map_set,sj (by omega)] at hu4
   have w2:IntKind.wrap .i64 ((m:Int) - 1)=(m:Int) - 1:=aC (by omega) (by omega)
   simp only[sz,simprocAttr,h6,w2]
   refine ⟨m,by omega,by omega,⟨by simp[sx],by simp[St,LM,sx,h0,h1,h2,h4,h5],hu4,fun j c hj hc'=>?_⟩,by omega,fun i hi=>by rw[f4 i hi,hfr i hi]⟩
   by_cases e:j=m
   ·subst e
    rw[hci] at hc';injection hc' with hc'
    rw[hv,Option.getD_some];omega
   ·exact hmx j c (by omega) hc'
  ·simp only[sz,simprocAttr,h6,h1,h4,c1,ru,u1,u2,r1,hlt,q1,hry,sJ,cC,ci,w1,c2]
   refine fin (m+1) _ _ hm ⟨?_,?_,?_,hmx⟩ ?_ ?_ (.inr ⟨v,x.card,hv,hci,c2,by omega⟩)
   ·simp[sx,h6]
   ·simp[St,LM,sx,h0,h1,h2,h4,h5]
   ·exact how
   ·exact hnx
   ·exact hfr
theorem LP {a b u:AV}(ha:a.cells=[a]/\a.isTup=false)(hb:b.cells=[b]/\b.isTup=false)(hu:u.cells=[u]/\u.isTup=false):dv [.int .i64 0,.int .i64 0,.nils] [((0,1),a),((1,1),b),((2,1),u)]=some [a,b,u]:=by
 simp[dv,ha,hb,hu,cU]
 rfl
theorem Gp {d id t1 t2 ky ke:Nat}{n:Net}{y:QnM}{e:List Int}{b fl S_ w:AV}{g0:G}{K:AV->G->Prop}(hd:0<d)(hr:NR n)(hq:QnOk n y)(hcs:Rp.rp NoP ky .nil y [.int .i64 n.grain,b,fl,S_])(hw:SlR NoP ke .nil e w)(hel:e.length<=n.nodes.length)
  (J:Nat->H->Prop) (E:G->Prop) (hJ:∀j h h',(∀i,i<g0.nx->h'.get i=h.get i)->J j h->J j h')
  (skip:∀(j:Nat) (h:H),j<S.an n->S.jm (S.ak (S.ac n) j) e=false->J j h->J (j+1) h)
  (step:∀(j:Nat) (u:AV) (g:G) (K':AV->G->Prop) (D:ADf->Prop),j<S.an n->S.jm (S.ak (S.ac n) j) e=true->g0.nx<=g.nx->J j g.h->SlR (fun i=>g0.nx<=i/\i<g.nx) 0 g.h (S.ak (S.ac n) j) u ->
   (∀g',J (j+1) g'.h->g.nx<=g'.nx->(∀i,g0.nx<=i->i<g.nx->g'.h.get i=g.h.get i)->K' (.bool true) g')->(∀g',E g'->K' (.bool false) g')->(bU (I C0) d id [.agg [.int .i64 (j:Int),.int .i64 (S.aI n (S.ak (S.ac n) j)),u]] g).sat K' g D)
  (h0:J 0 g0.h) (fin:∀g',J (S.an n) g'.h->g0.nx<=g'.nx->K (.tup []) g') (finE:∀g',E g'->K (.tup []) g') :
  wp C0 d none aH.code (fnQ C0 d aH.res K) (cg 0 [.yld id,.tptr t1 4 [[.int .i64 n.grain,b,fl,S_]] 0 0,.tptr t2 1 [[w]] 0 0] .nil) [] g0:=by
 obtain ⟨b',fl',S',e1,hN,hfl,hS⟩:=rm.1 hcs
 injection e1 with e1 e2
 injection e2 with e2 e3
 injection e3 with e3 e4
 injection e4 with e4 e5
 subst e2;subst e3;subst e4
 have hN:SlR NoP ky .nil n.nodes b:=by rw[<-hq.net];exact hN
 have hl8:=hr.l2
 have hl1:=hr.l1
 obtain ⟨W1,W2,W3⟩:=hr.wl
 have hcs1:=fun c hc=>(hr.cs c hc).1
 have nl:=hN.len
 have hcl:=aG n
 obtain ⟨Qf,hQf⟩:∃Qf,Qf=fnQ C0 d aH.res K:=⟨_,rfl⟩
 rw[<-hQf]
 simp only[sz,simprocAttr,aH,sJ,cC,nl]
 refine jK (b:=g0.nx) (n:=n.nodes.length) (by unfold a_;omega) (by unfold a_;omega) (Nat.le_refl _) fun u g1 hu n1 fr1 v1=>?_
 simp only[sz,simprocAttr]
 have hul:∀(g:G) (l:List Int),l.length=n.nodes.length->Own g g0.nx u 1 (l.map ci)->∀g2:G,ii .slice u g2=.val (.int .i64 (n.nodes.length:Int)):=fun g l hl ho g2=>by rw[gG ho.rows];simp[hl]
 obtain ⟨INV,hINV⟩:∃INV:Nat->PT,INV=(fun m t df g=>df=[]/\∃(j:Nat) (vs:List Int),m=S.an n - j/\j<S.an n/\InC (S.ac n) vs/\S.ah (S.ac n) vs=(j:Int)/\St t (LM id n.grain b fl S_ w u j t1 t2)/\Own g g0.nx u 1 (vs.map ci)/\J j g.h/\g0.nx<=g.nx):=⟨_,rfl⟩
 refine oC INV (S.an n) ?_ ?_
 ·rw[hINV]
  exact ⟨rfl,0,List.replicate n.nodes.length 0,rfl,by omega,by rw[<-hcl];exact AS hcs1,by rw[tC];rfl,by simp[St,LM,sx],by simpa [ci] using hu,hJ 0 _ _ (fun i hi=>fr1 i hi) h0,by omega⟩
 intro m t df g hI
 have hI2:=hI
 rw[hINV] at hI2
 obtain ⟨rfl,j,vs,rfl,hj,hin,hidx,⟨h0,h1,h2,h4,h5,-⟩,ho,hJj,hnx⟩:=hI2
 clear hI
 have hvl:=hin.len
 rw[aG] at hvl
 have hval:S.ak (S.ac n) (j:Int)=vs:=by rw[<-hidx];exact nY hcs1 hin
 have hvu:vid u=some g0.nx:=v1
 have hsl:SlR (fun i=>g0.nx<=i/\i<g.nx) 0 g.h vs u:=Own.sl (α:=Int) ho (by omega) (All2.of_map (fun a=>ay.2 rfl) _) fun i hi=>ho.lt hi
 have hmt:=CA (d:=d) (g:=g) (v:=u) (w:=w) (vals:=vs) (e:=e) hd hsl (hw.tree (h':=g.h) (Nat.le_refl _)) (by omega)
 have hlu:=hul g vs hvl ho
 have w1:IntKind.wrap .i64 ((n.nodes.length:Int) - 1)=(n.nodes.length:Int) - 1:=aC (by omega) (by omega)
 obtain ⟨R,hR⟩:∃R,R=sQ [oM 28 4,oN 29 28,o 30 (.bin .sub (.t 29) (qI 1)),oM 6 30] (.seq (.blk 2 (.loop bB)) bA):=⟨_,rfl⟩
 simp only[dA]
 rw[<-hR,dL,Aj]
 obtain ⟨Q1,hQ1⟩:∃Q1,Q1=kB 1 (kS (wp C0 d none bP (kL INV (S.an n - j) (kB 0 Qf))) (kL INV (S.an n - j) (kB 0 Qf))):=⟨_,rfl⟩
 rw[<-hQ1]
 have rest:∀(t:T) (g:G),St t (LM id n.grain b fl S_ w u j t1 t2)->Own g g0.nx u 1 (vs.map ci)->J (j+1) g.h->g0.nx<=g.nx->wp C0 d none R Q1 t [] g:=by
  rintro t g ⟨h0,h1,h2,h4,h5,-⟩ ho hJj hnx
  rw[hR,hQ1]
  simp only[sz,simprocAttr,h4,hlu,w1]
  refine F3 (t1:=t1) (t2:=t2) (id:=id) (k:=j) (m:=n.nodes.length) (n:=n) (b:=b) (fl:=fl) (S_:=S_) (w:=w) (u:=u) (vs:=vs) (g0:=g0) hr hN hin (Nat.le_refl _) ⟨by simp[sx],by simp[St,LM,sx,h0,h1,h2,h4,h5],?_,fun i c hi hc=>?_⟩ ?_
  ·rw[List.take_of_length_le (by omega),show vs.length - n.nodes.length=0 by omega]
   simpa using ho
  ·have:=(List.getElem?_eq_some_iff.1 hc).1
   omega
  rintro m' t2 g2 hm' ⟨h6,⟨h0,h1,h2,h4,h5,-⟩,ho2,hmx⟩ hn2 hf2 hcase
  have hJ2:J (j+1) g2.h:=hJ _ _ _ (fun i hi=>hf2 i fun e=>by rw[hvu] at e;injection e with e;omega) hJj
  rcases hcase with rfl | ⟨x,c,hx,hc,hxc,hm0⟩
  ·have hlast:j+1=S.an n:=by
    have:=vI (cs:=S.ac n) (vs:=vs) hin.len.symm fun i c hc=>hmx i c (Nat.zero_le _) hc
    omega
   have c1:(((0:Nat):Int) - 1<0):=by omega
   rw[hQf]
   simp only[sz,simprocAttr,bA,aH,h6,c1]
   rw[hlast] at hJ2
   exact fin g2 hJ2 (by omega)
  ·obtain ⟨i,rfl⟩:∃i,m'=i+1:=⟨m' - 1,by omega⟩
   rw[Nat.add_sub_cancel] at hx hc
   have hil:=(List.getElem?_eq_some_iff.1 hx).1
   have e1:((i+1:Nat):Int) - 1=(i:Int):=by omega
   rw[e1] at h6
   have c1:¬((i:Int)<0):=by omega
   have u1:i<((vs.take (i+1)++List.replicate (vs.length - (i+1)) 0).map ci).length:=by simp;omega
   have u2:((vs.take (i+1)++List.replicate (vs.length - (i+1)) 0).map ci)[i]?=some (ci x):=by
    rw[List.getElem?_map,List.getElem?_append_left (by simp;omega),List.getElem?_take_of_lt (by omega),hx];rfl
   have ru:=ho2.rows
   obtain ⟨x',hx',hx0,hx1⟩:=hin.get hc
   rw[Au hx' hx] at hx0 hx1
   have hcb:=hr.cs c (List.mem_of_getElem? hc)
   have w2:IntKind.wrap .i64 (x+1)=x+1:=aC (by omega) (by omega)
   simp only[sz,simprocAttr,bA,h6,c1,h4,ru,u1,u2,ci,w2]
   refine bC (v:=u) (sz:=1) (n:=1) (i:=i) (off:=0) (x:=.int .i64 (x+1)) (row':=ci (x+1)) ho2 u2 rfl rfl rfl fun g4 hu4 n4 f4=>?_
   rw[<-List.map_set,th hil] at hu4
   have hin2:=AW hin hcs1 hx hc hxc
   have hidx2:=AM (cs:=S.ac n) (vs:=vs) hin.len.symm hx fun k c hk hc=>hmx k c (by omega) hc
   rw[hidx] at hidx2
   have hlt2:=bV hr.cs hin2
   have w3:IntKind.wrap .i64 ((j:Int)+1)=((j+1:Nat):Int):=by rw[aC (by omega) (by omega)];rfl
   simp only[sz,simprocAttr,bP,h5,w3]
   refine ⟨S.an n - (j+1),by omega,?_⟩
   rw[hINV]
   refine ⟨rfl,j+1,_,rfl,by omega,hin2,by rw[hidx2];rfl,by simp[St,LM,sx,h0,h1,h2,h4],hu4,hJ _ _ _ (fun i hi=>f4 i fun e=>by rw[hvu] at e;injection e with e;omega) hJ2,by omega⟩
 cases hm:S.jm vs e with
 | false =>
  rw[hm] at hmt
  rw[dL]
  simp only[sz,simprocAttr,h4,h2,cC,hmt]
  exact rest _ _ (by simp[St,LM,sx,h0,h1,h2,h4,h5]) ho (skip j _ hj (by rw[hval];exact hm) hJj) hnx
 | true =>
  rw[hm] at hmt
  rw[dL]
  have hwt:=GT (d:=d) (g:=g) (v:=.agg [.int .i64 n.grain,b,fl,S_]) (w:=u) (vals:=vs) (y:=y) hd hr ⟨_,rfl,Rp.tree hcs (Nat.le_refl _)⟩ hq hsl hin
  simp only[sz,simprocAttr,h0,h1,h5,h4,h2,cC,hmt,hwt,LP (a:=.int .i64 (j:Int)) (b:=.int .i64 (S.aI n vs)) ⟨rfl,rfl⟩ ⟨rfl,rfl⟩ ho.cell]
  have st:=fun K' D=>step j u g K' D hj (by rw[hval];exact hm) hnx hJj (by rw[hval];exact hsl)
  rw[hval] at st
  show (bU (I C0) d id [.agg [.int .i64 (j:Int),.int .i64 (S.aI n vs),u]] g).sat _ _ _
  refine st _ _ (fun g' hJ' hn' hf'=>?_) fun g' hE=>?_
  ·simp only[sz,simprocAttr]
   exact rest _ _ (by simp[St,LM,sx,h0,h1,h2,h4,h5]) (ho.fr hn' fun i hi=>hf' i (ho.lt hi).1 (ho.lt hi).2) hJ' (by omega)
  ·rw[hQ1,hQf]
   simp only[sz,simprocAttr,aH]
   exact finE g' hE
theorem Gu {C:Cfg}{d id nt:Nat}{t:T}{ps:List Nat}{assign body:Code}{a b:SC}{dfr:Nat}{args:List AV}{g:G}{K:AV->G->Prop}{D:ADf->Prop}{t':T}
  (hg:g.h.get id=.loop nt t ps assign body dfr .ready none) (ha:dY C nt assign=a) (hb:dY C nt body=b) (hp:cB t nt ps args=some t')
  (h:wp C d (some id) a (fun e t1 df g1=>e=.norm/\df=[]/\g1.h.get id=.loop nt t ps assign body dfr .ready none /\
   wp C d (some id) b (fun e _ df g2=>df=[]/\g2.h.get id=.loop nt t ps assign body dfr .busy none/\((e=.norm/\K (.bool true) (g2.put id (.loop nt t ps assign body dfr .ready none)))\/(e=.ret/\K (.bool false) (g2.put id (.loop nt t ps assign body dfr .done (some .ret))))))
    t1 [] (g1.put id (.loop nt t ps assign body dfr .busy none))) t' [] g) :
  (bU (I C) d id args g).sat K g D:=by
 subst ha;subst hb
 unfold bU
 rw[show g.get id=_ from hg]
 dsimp only
 rw[hp]
 dsimp only
 have h1:=qF h
 cases hc:(I C).code nt d (some id) assign t' [] g with
 | fail=>rw[hc] at h1;exact h1.elim
 | ok e t1 df g1 =>
  rw[hc] at h1
  obtain ⟨rfl,rfl,hg1,h2⟩:=h1
  dsimp only
  rw[show g1.get id=_ from hg1]
  dsimp only
  have h3:=qF h2
  cases hc2:(I C).code nt d (some id) body t1 [] (g1.put id (.loop nt t ps assign body dfr .busy none)) with
  | fail=>rw[hc2] at h3;exact h3.elim
  | ok e t2 df2 g2 =>
   rw[hc2] at h3
   obtain ⟨rfl,h4,h5⟩:=h3
   dsimp only
   rw[show g2.get id=_ from h4]
   rcases h5 with ⟨rfl,h5⟩ | ⟨rfl,h5⟩<;>exact h5
theorem Bz:C0.ext N.am=none:=by kernel_rfl
theorem yO {d nt p r t1 t2 ky ke:Nat}{n:Net}{y:QnM}{e:List Int}{cs:List AV}{w:AV}{ca cb:SC}{Q:QT}{t:T}{df:List ADf}{g:G}(hd:0<d)(hr:NR n)(hq:QnOk n y)(hcs:Rp.rp NoP ky .nil y cs)(hw:SlR NoP ke .nil e w)(hel:e.length<=n.nodes.length)
  (hv:tat t r=.clo N.am [] [.tptr t1 4 [cs] 0 0,.tptr t2 1 [[w]] 0 0]) (hp:p<nt)
  (J:Nat->H->Prop) (E:H->Prop) (hJ:∀j h h',(∀i,i<g.nx->h'.get i=h.get i)->J j h->J j h') (hE:∀h h',(∀i,i<g.nx->h'.get i=h.get i)->E h->E h') (h0:J 0 g.h)
  (skip:∀(j:Nat) (h:H),j<S.an n->S.jm (S.ak (S.ac n) j) e=false->J j h->J (j+1) h)
  (step:∀(j:Nat) (u:AV) (g1:G),j<S.an n->S.jm (S.ak (S.ac n) j) e=true->J j g1.h->g.nx+2<=g1.nx->SlR (fun i=>g.nx+2<=i/\i<g1.nx) 0 g1.h (S.ak (S.ac n) j) u ->
   wp C0 d (some (g.nx+1)) ca (fun e t1 df g1'=>e=.norm/\df=[]/\Fr g1 g1'/\∀g2:G,g2.nx=g1'.nx->(∀i,i≠g.nx+1->g2.h.get i=g1'.h.get i) ->
    wp C0 d (some (g.nx+1)) cb (fun e _ df g3=>df=[]/\RowQ g.nx g2 g3 e (J (j+1) g3.h) (E g3.h)) t1 [] g2)
    (fm t p (.agg [.int .i64 (j:Int),.int .i64 (S.aI n (S.ak (S.ac n) j)),u])) [] g1)
  (fin:∀g',J (S.an n) g'.h->g.nx+2<=g'.nx->g'.h.get g.nx=.dfr true->Q .norm t (.mark g.nx::df) g')
  (finE:∀g',E g'.h->g.nx+2<=g'.nx->g'.h.get g.nx=.dfr true->Q .ret t (.mark g.nx::df) g') :
  wp C0 d none (.rng nt (.t r) [p] ca cb) Q t df g:=by
 obtain ⟨b,fl,S_,rfl,-,-,-⟩:=rm.1 hcs
 rw[hq.net] at hv hcs
 refine om (fn:=N.am) (first:=[]) (cap:=[.tptr t1 4 [[.int .i64 n.grain,b,fl,S_]] 0 0,.tptr t2 1 [[w]] 0 0]) (s:=aH) hv Bz jA (by simp[aH]) ?_
 intro assign body ha hb
 have e1:((g.new (.dfr true)).new (.loop nt t [p] assign body g.nx .ready none)).nx=g.nx+2:=by simp
 refine Gp (g0:=(g.new (.dfr true)).new (.loop nt t [p] assign body g.nx .ready none)) (id:=g.nx+1) hd hr hq hcs hw hel
  (fun j h=>J j h/\h.get g.nx=.dfr true/\h.get (g.nx+1)=.loop nt t [p] assign body g.nx .ready none)
  (fun g'=>E g'.h/\g'.h.get g.nx=.dfr true/\g'.h.get (g.nx+1)=.loop nt t [p] assign body g.nx .done (some .ret)/\g.nx+2<=g'.nx) ?_ ?_ ?_ ?_ ?_ ?_
 ·rintro j h h' hh ⟨a1,a2,a3⟩
  rw[e1] at hh
  exact ⟨hJ j h h' (fun i hi=>hh i (by omega)) a1,by rw[hh _ (by omega),a2],by rw[hh _ (by omega),a3]⟩
 ·rintro j h hj hm ⟨a1,a2,a3⟩
  exact ⟨skip j h hj hm a1,a2,a3⟩
 ·rintro j u g1 K' D hj hm hn ⟨a1,a2,a3⟩ hsl kk kE
  rw[e1] at hn kk hsl
  refine Gu a3 ha hb (t':=fm t p (.agg [.int .i64 (j:Int),.int .i64 (S.aI n (S.ak (S.ac n) j)),u])) ?_ ?_
  ·simp only[cB,aa,Nat.blt_eq,if_pos hp];rfl
  ·refine bY _ (step j u g1 hj hm a1 (by omega) hsl) ?_
   rintro e t1 df g1' ⟨rfl,rfl,hfr,h⟩
   have hl0:g.nx+1<g1.nx:=by omega
   have hl:g.nx+1<g1'.nx:=Nat.lt_of_lt_of_le hl0 hfr.1
   have a2':g1'.h.get g.nx=.dfr true:=by rw[hfr.2 _ (by omega),a2]
   have a3':g1'.h.get (g.nx+1)=.loop nt t [p] assign body g.nx .ready none:=by rw[hfr.2 _ hl0,a3]
   refine ⟨rfl,rfl,a3',?_⟩
   refine bY _ (h (g1'.put (g.nx+1) (.loop nt t [p] assign body g.nx .busy none)) (by simp) (fun i hi=>by simp[H.get_put,hi])) ?_
   rintro e t2 df g3 ⟨rfl,⟨b2,b3,b1⟩⟩
   have b4:g3.h.get (g.nx+1)=.loop nt t [p] assign body g.nx .busy none:=by rw[b3 _ (by omega) (by simpa using hl)];simp[H.get_put]
   have b5:g3.h.get g.nx=.dfr true:=by
    rw[b3 _ (by omega) (by simp;omega)];simp[H.get_put,a2']
   refine ⟨rfl,b4,?_⟩
   have b2':g1'.nx<=g3.nx:=by simpa using b2
   have hf1:=hfr.1
   rcases b1 with ⟨rfl,b1⟩ | ⟨rfl,b1⟩
   ·refine .inl ⟨rfl,kk _ ⟨hJ _ g3.h _ (fun i hi=>by simp[H.get_put,show ¬i=g.nx+1 by omega]) b1,?_,?_⟩ (by simp;omega) fun i h1 h2=>?_⟩
    ·simp[H.get_put,b5]
    ·simp[H.get_put]
    ·have hne:¬i=g.nx+1:=by omega
     have:=b3 i (by omega) (by simp;omega)
     simp[H.get_put,hne] at this ⊢
     rw[this,hfr.2 i h2]
   ·refine .inr ⟨rfl,kE _ ⟨hE g3.h _ (fun i hi=>by simp[H.get_put,show ¬i=g.nx+1 by omega]) b1,?_,?_,?_⟩⟩
    ·simp[H.get_put,b5]
    ·simp[H.get_put]
    ·simp;omega
 ·refine ⟨hJ 0 g.h _ (fun i hi=>?_) h0,?_,?_⟩
  ·simp[H.get_put,show ¬i=g.nx+1 by omega,show ¬i=g.nx by omega]
  ·simp[H.get_put]
  ·simp[H.get_put]
 ·rintro g' ⟨a1,a2,a3⟩ hn
  rw[e1] at hn
  refine ⟨_,_,_,_,_,_,.inl ⟨a3,fin _ (hJ _ g'.h _ (fun i hi=>by simp[H.get_put,show ¬i=g.nx+1 by omega]) a1) (by simpa using hn) ?_⟩⟩
  simp[H.get_put,a2]
 ·rintro g' ⟨a1,a2,a3,hn⟩
  refine ⟨_,_,_,_,_,_,.inr ⟨a3,finE _ (hE g'.h _ (fun i hi=>by simp[H.get_put,show ¬i=g.nx+1 by omega]) a1) (by simpa using hn) ?_⟩⟩
  simp[H.get_put,a2]
theorem wF {n:Net}{e:List Int}(h:S.aJ n e=true):e.length=n.nodes.length/\∀x∈e,-1<=x:=by
 simp only[S.aJ,Bool.and_eq_true,decide_eq_true_eq,List.all_eq_true] at h
 refine ⟨h.1,fun x hx=>?_⟩
 obtain ⟨i,hi,he⟩:=List.mem_iff_getElem.1 hx
 have:=(h.2 i (List.mem_range.2 hi)).1
 rw[List.getElem?_eq_getElem hi,he] at this
 exact this
def S.pe (n:Net)(e:List Int)(w:Nat):Bool:=S.aU (S.ak (S.ac n) (w:Int)) e
theorem Bi (n:Net)(e:List Int):S.aY n e=S.ap n (S.pe n e) (S.an n):=rfl
theorem Aw {n:Net}(h:NR n){p:Nat->Bool}{j:Nat}(hj:j<=1024):0<=S.ap n p j/\S.ap n p j<=171992678400000000:=by
 have:=rR h p j
 omega
theorem Li (g:G)(o o':AObj):Fr g ((g.new o).put g.nx o'):=⟨by simp,fun i hi=>by simp[H.get_put,show ¬i=g.nx by omega]⟩
theorem Kt {d kk:Nat}{g:G}{v w:AV}{n:Net}{y:QnM}{e:List Int}(hd:0<d)(hr:NR n)(hm:Agg y NoP 0 g.h v)(hq:QnOk n y)(he:SlR NoP kk g.h e w)(hev:S.aJ n e=true)(hk:kk<=d:=by omega) :
  an C0 d N.aW [v,w] g=.val (.int .i64 (S.aY n e)):=by
 have e0:=cq d hm
 have ew:=vH d he
 obtain ⟨cs,rfl,hcs⟩:=hm
 obtain ⟨b,fl,S_,rfl,-,-,-⟩:=rm.1 hcs
 obtain ⟨el,ege⟩:=wF hev
 obtain ⟨W1,W2,W3⟩:=hr.wl
 rw[mG]
 refine lN nX (xs:=[.agg [.int .i64 y.1.grain,b,fl,S_],w]) (by simp only[aB,e0,ew]) (by simp[d7]) hd ?_
 simp only[sz,simprocAttr,d7]
 unfold gH
 refine cV (P:=fun t' df g'=>df=[]/\g'.nx=2/\g'.h.get 0=.cells 4 [[.int .i64 y.1.grain,b,fl,S_]] 0 false false/\g'.h.get 1=.cells 1 [[.int .i64 0]] 0 false false/\St t' [(1,w),(2,.hptr 0 0 0 0),(5,.hptr 1 0 0 0)]) ?_ ?_
 ·simp only[sz,simprocAttr]
  simp[St,sx]
 rintro t df g0 ⟨rfl,f2,f0,f1,h1,h2,h5,-⟩
 obtain ⟨cs,z,t1,t2,ez,hcs',hz⟩:=uy (d:=d+1) (g:=g0) (y:=y) (e:=e) (v:=.agg [.int .i64 y.1.grain,b,fl,S_]) (w:=w) (Nat.succ_pos d) ⟨_,rfl,Rp.tree hcs (Nat.le_refl _)⟩ (he.tree (Nat.le_refl _))
 rw[dL,dL]
 simp only[sz,simprocAttr,h1,h2,f0,ez]
 refine yO (t1:=t1) (t2:=t2) (n:=n) (y:=y) (e:=e) (cs:=cs) (w:=z) (Nat.succ_pos d) hr hq hcs' hz (by omega) (by simp[sx]) (by decide)
  (fun j h=>h.get 1=.cells 1 [[.int .i64 (S.ap n (S.pe n e) j)]] 0 false false) (fun _=>False) (fun j h h' hh h1=>by rw[hh 1 (by omega),h1]) (fun _ _ _ h=>h) f1 ?_ ?_ ?_ (fun _ h=>h.elim)
 ·intro j h hj hmt h1
  have hp:S.pe n e j=false:=by rw[S.pe,<-D8 ege];exact hmt
  rw[h1,S.ap,hp];simp
 ·intro j u g1 hj hmt h1 hn hu
  have hp:S.pe n e j=true:=by rw[S.pe,<-D8 ege];exact hmt
  have hb:=Aw hr (p:=S.pe n e) (j:=j+1) (by omega)
  have hs:S.ap n (S.pe n e) (j+1)=S.ap n (S.pe n e) j+S.aI n (S.ak (S.ac n) (j:Int)):=by rw[S.ap,hp];simp
  have w1:IntKind.wrap .i64 (S.ap n (S.pe n e) j+S.aI n (S.ak (S.ac n) (j:Int)))=S.ap n (S.pe n e) (j+1):=by rw[<-hs,aC (by omega) (by omega)]
  simp only[sz,simprocAttr,fI]
  refine ⟨Li _ _ _,?_⟩
  intro g2 n2 f2'
  have k6:g2.h.get g1.nx=.cells 3 [[.int .i64 (j:Int),.int .i64 (S.aI n (S.ak (S.ac n) (j:Int))),u]] 0 false false:=by rw[f2' _ (by omega),if_pos rfl]
  have k1:g2.h.get 1=.cells 1 [[.int .i64 (S.ap n (S.pe n e) j)]] 0 false false:=by rw[f2' 1 (by omega),if_neg (by omega),if_neg (by omega),h1]
  simp only[sz,simprocAttr,fQ,h5,k1,k6,w1]
  exact ⟨by simp,fun i h1 h2=>by simp[H.get_put,show ¬i=1 by omega],.inl ⟨rfl,by simp[H.get_put]⟩⟩
 ·intro g' h1 hn hdf
  simp only[sz,simprocAttr,fM,h5,h1]
  refine iL hdf ?_
  simp only[sx,↓reduceIte]
  rw[Bi]
structure CdOk (l:List Int):Prop where
 c:∀x∈l,1<=x/\x<=4
 l8:l.length<=8
 p:S.aa l<=1024
theorem EI {n:Net}(h:NR n):CdOk (S.ac n):=⟨h.cs,by rw[aG];exact h.l2,h.worlds⟩
theorem ta {l:List Int}(h:CdOk l)(j:Nat):1<=S.aa (l.take j)/\S.aa (l.take j)<=S.aa l:=by
 have h1:1<=S.aa (l.take j):=aW fun c hc=>by have:=h.c c (List.mem_of_mem_take hc);omega
 have h2:1<=S.aa (l.drop j):=aW fun c hc=>by have:=h.c c (List.mem_of_mem_drop hc);omega
 have h3:S.aa l=S.aa (l.take j)*S.aa (l.drop j):=by
  conv=>lhs;rw[<-List.take_append_drop j l]
  rw[fN]
 refine ⟨h1,?_⟩
 rw[h3]
 have:=Int.mul_le_mul_of_nonneg_left h2 (show 0<=S.aa (l.take j) by omega)
 omega
theorem BZ {d k:Nat}{P:Nat->Prop}{g:G}{v:AV}{l:List Int}(hd:0<d)(hl:SlR P k g.h l v)(hc:CdOk l):an C0 d N.aA [v] g=.val (.tup [.int .i64 (S.aa l),.bool true]):=by
 have key:∃r,an C0 d N.aA [v] g=.val r/\nJ (One (S.aa l)) (One true) NoP 0 .nil r:=by
  obtain ⟨w,ew,hw⟩:=dR hl d
  have rw':=fun h=>(hw h).ints
  have lw:=fun g:G=>(hw g.h).len g
  have hl8:=hc.l8
  have c8:¬(8:Int)<0:=by decide
  rw[uf]
  refine ba wD (xs:=[w]) (by simp only[aB,ew]) (by simp[mF]) (bN (m:=1) (aO _) (aO _) (by decide) (by decide)) (by decide) hd ?_
  have lt12:¬(12:Int)<(l.length:Int):=by omega
  simp only[sz,simprocAttr,mF,lw,lt12]
  refine aJ (m:=l.length) hl.1 (fun j t df g=>df=[]/\St t [(2,.int .i64 (S.aa (l.take j))),(3,.bool true),(9,w)]) ⟨rfl,by simp[St,sx,S.aa]⟩ (by simp[sx]) (by simp[sx]) (by decide) (by rintro j t df g v s (rfl | rfl | rfl)<;>simp[St,sx]) ?_ ?_
  ·rintro j t df g hj ⟨rfl,h2,h3,h9,-⟩ h11 h10
   obtain ⟨x,hx,htk,hm⟩:=au hj
   have hx4:=hc.c x hm
   have u1:j<(l.map ci).length:=by simpa using hj
   have u2:(l.map ci)[j]?=some (ci x):=by rw[List.getElem?_map,hx];rfl
   have hp:=ta hc (j+1)
   have hp':=hc.p
   have e1:S.aa (l.take (j+1))=S.aa (l.take j)*x:=by rw[htk,gz]
   have w1:IntKind.wrap .i64 (S.aa (l.take j)*x)=S.aa (l.take (j+1)):=by rw[<-e1,aC (by omega) (by omega)]
   have n1:¬x<1:=by omega
   have n2:¬8<x:=by omega
   have n3:¬4096<S.aa (l.take (j+1)):=by omega
   simp only[sz,simprocAttr,h2,h3,h9,h11,h10,rw',u1,u2,ci,n1,n2,n3,w1]
   simp[St,sx,h2,h3,h9,w1]
  ·rintro t df g ⟨rfl,h2,h3,h9,-⟩
   rw[List.take_length] at h2
   simp only[sz,simprocAttr,nA,h2,h3]
   exact ⟨fun _=>True,_,_,rfl,ay.2 rfl,gT.2 rfl⟩
 obtain ⟨r,hr,a,b,rfl,ha,hb⟩:=key
 have ha:=ay.1 ha
 injection ha with ha
 have hb:=gT.1 hb
 injection hb with hb
 rw[hr,ha,hb]
theorem zg {l:List Int}(hl:∀c∈l,0<c)(h:Int):S.bk l h=h / S.aa l:=by
 induction l with
 | nil=>show h=h / 1;rw[Int.ediv_one]
 | cons c l ih =>
  have hc:=hl c (List.mem_cons_self ..)
  show S.bk l h / c=_
  rw[ih fun x hx=>hl x (List.mem_cons_of_mem _ hx),bG,Int.mul_comm,Int.ediv_ediv_of_nonneg]
  have:1<=S.aa l:=aW fun x hx=>by have:=hl x (List.mem_cons_of_mem _ hx);omega
  omega
theorem jP {l:List Int}(h:CdOk l)(j:Nat):S.aa (l.drop j)<=S.aa l:=by
 have h1:1<=S.aa (l.take j):=aW fun c hc=>by have:=h.c c (List.mem_of_mem_take hc);omega
 have h2:1<=S.aa (l.drop j):=aW fun c hc=>by have:=h.c c (List.mem_of_mem_drop hc);omega
 have h3:S.aa l=S.aa (l.take j)*S.aa (l.drop j):=by
  conv=>lhs;rw[<-List.take_append_drop j l]
  rw[fN]
 rw[h3]
 have:=Int.mul_le_mul_of_nonneg_right h1 (show 0<=S.aa (l.drop j) by omega)
 omega
def S.aV (l:List Int)(i:Int)(k:Nat):Int:=i % S.aa (l.drop k)
theorem HT {l:List Int}{i:Int}(h0:0<=i)(h:i<S.aa l):S.aV l i 0=i:=by
 rw[S.aV,List.drop_zero];exact Int.emod_eq_of_lt h0 h
theorem qP {l:List Int}{k:Nat}{c:Int}(h:l[k]?=some c):S.aa (l.drop k)=c*S.aa (l.drop (k+1)):=by
 obtain ⟨hk,e⟩:=List.getElem?_eq_some_iff.1 h
 rw[List.drop_eq_getElem_cons hk,bG,e]
theorem Ia {l:List Int}(hl:∀c∈l,0<c){i:Int}(h0:0<=i){k:Nat}{c:Int}(h:l[k]?=some c):S.aV l i k / S.aa (l.drop (k+1))=S.aR l i k/\S.aV l i k % S.aa (l.drop (k+1))=S.aV l i (k+1):=by
 have hP:1<=S.aa (l.drop (k+1)):=aW fun c hc=>by have:=hl c (List.mem_of_mem_drop hc);omega
 have hc:=hl c (List.mem_of_getElem? h)
 have hd:S.aR l i k=i / S.aa (l.drop (k+1)) % c:=by
  rw[S.aR,zg fun c hc=>hl c (List.mem_of_mem_drop hc),h];rfl
 rw[hd,S.aV,S.aV,qP h]
 obtain ⟨a,rfl⟩:=Int.eq_ofNat_of_zero_le h0
 obtain ⟨p,hp⟩:=Int.eq_ofNat_of_zero_le (show 0<=S.aa (l.drop (k+1)) by omega)
 obtain ⟨q,hq⟩:=Int.eq_ofNat_of_zero_le (show 0<=c by omega)
 rw[hp,hq]
 constructor
 ·have:=Nat.mod_mul_right_div_self a p q
  have e:a % (q*p) / p=a / p % q:=by rw[Nat.mul_comm q p];exact this
  exact_mod_cast e
 ·have:a % (q*p) % p=a % p:=by rw[Nat.mul_comm];exact Nat.mod_mul_right_mod a p q
  exact_mod_cast this
def IvV (l:List Int)(s i:Int):VS:=fun P k h v=>∃p q r,v=.clo N.aE [] [p,q,r]/\Bp i 1 P k h p/\Bp s 1 P k h q/\Bp l 1 P k h r
theorem Mj (l:List Int)(s i:Int):Snb (IvV l s i) 2:=by
 refine ⟨fun {P k h v n} d r hn=>?_,fun {k h v n} r hn=>?_⟩
 ·obtain ⟨p,q,r,rfl,r1,r2,r3⟩:=r
  obtain ⟨n,rfl⟩:∃q,n=q+2:=⟨n - 2,by omega⟩
  obtain ⟨p',e1,r1'⟩:=pz (n:=n) d r1 (Nat.le_trans (show Rp.dp Int<=20 by decide) (by omega))
  obtain ⟨q',e2,r2'⟩:=pz (n:=n) d r2 (Nat.le_trans (show Rp.dp Int<=20 by decide) (by omega))
  obtain ⟨r',e3,r3'⟩:=pz (n:=n) d r3 (Nat.le_trans (show Rp.dp (List Int)<=20 by decide) (by omega))
  refine ⟨.clo N.aE [] [p',q',r'],?_,p',q',r',rfl,r1',r2',r3'⟩
  simp only[Hx.snap,aB] at e1 e2 e3 ⊢
  rw[e1,e2,e3]
 ·obtain ⟨p,q,r,rfl,r1,r2,r3⟩:=r
  obtain ⟨n,rfl⟩:∃q,n=q+2:=⟨n - 2,by omega⟩
  obtain ⟨m1,e1,l1⟩:=sC (n:=n) r1
  obtain ⟨m2,e2,l2⟩:=sC (n:=n) r2
  obtain ⟨m3,e3,l3⟩:=sC (n:=n) r3
  refine ⟨Nat.max m1 (Nat.max m2 (Nat.max m3 0)),?_,by show max m1 (max m2 (max m3 0))<=k;omega⟩
  show di (bK (n+1)) [p,q,r]=_
  simp only[di,e1,e2,e3]
def ivC (t1 t2 t3:Nat)(w:AV)(s i:Int):AV:=.clo N.aE [] [.tptr t1 1 [[.int .i64 i]] 0 0,.tptr t2 1 [[.int .i64 s]] 0 0,.tptr t3 1 [[w]] 0 0]
theorem Jm {d kk:Nat}{g:G}{v:AV}{l:List Int}{s i:Int}(hd:0<d)(hl:SlR NoP kk g.h l v)(hk:kk<d):∃w t1 t2 t3,an C0 d N.aR [v,.int .i64 s,.int .i64 i] g=.val (ivC t1 t2 t3 w s i)/\SlR NoP kk .nil l w:=by
 have key:∃r,an C0 d N.aR [v,.int .i64 s,.int .i64 i] g=.val r/\IvV l s i NoP kk .nil r:=by
  rw[s6]
  refine ba uR (xs:=[v,.int .i64 s,.int .i64 i]) (by simp only[aB,vH d hl,cZ 0]) (by simp[j5]) (Mj l s i) (by decide) hk ?_
  simp only[sz,simprocAttr,j5,m8,Co hl]
  refine ⟨fun _=>True,_,_,_,rfl,.inl ⟨2,_,rfl,trivial,by simp[sx,H.get_put],ay.2 rfl⟩,.inl ⟨1,_,rfl,trivial,by simp[sx,H.get_put],ay.2 rfl⟩,.inl ⟨0,[v],rfl,trivial,by simp[sx,H.get_put],?_⟩⟩
  exact ⟨v,rfl,hl.wide (Nat.le_refl _)⟩
 obtain ⟨r,hr,p,q,r',rfl,r1,r2,r3⟩:=key
 rcases r1 with ⟨id,cs,rfl,hP,-⟩ | ⟨t1,cs,rfl,ht,r1⟩
 ·exact hP.elim
 rcases r2 with ⟨id,cs,rfl,hP,-⟩ | ⟨t2,cs2,rfl,ht2,r2⟩
 ·exact hP.elim
 rcases r3 with ⟨id,cs,rfl,hP,-⟩ | ⟨t3,cs3,rfl,ht3,r3⟩
 ·exact hP.elim
 obtain ⟨z,rfl,hz⟩:=iQ.1 r3
 have r1:=ay.1 r1
 have r2:=ay.1 r2
 subst r1 r2
 exact ⟨z,t1,t2,t3,hr,hz⟩
theorem FE {d id kk t1 t2 t3:Nat}{w:AV}{l:List Int}{i:Int}{g0:G}{K:AV->G->Prop}(hl:SlR NoP kk .nil l w)(hc:CdOk l)(hi0:0<=i)(hi:i<S.aa l)(J:Nat->H->Prop)
  (step:∀(j:Nat) (g:G) (K':AV->G->Prop) (D:ADf->Prop),j<l.length->g0.nx<=g.nx->J j g.h ->
   (∀g',J (j+1) g'.h->g.nx<=g'.nx->K' (.bool true) g')->(bU (I C0) d id [.int .i64 (j:Int),.int .i64 (S.aR l i j)] g).sat K' g D)
  (h0:J 0 g0.h) (fin:∀g',J l.length g'.h->g0.nx<=g'.nx->K (.tup []) g') :
  wp C0 d none cA.code (fnQ C0 d cA.res K) (cg 0 [.yld id,.tptr t1 1 [[.int .i64 i]] 0 0,.tptr t2 1 [[.int .i64 (S.aa l)]] 0 0,.tptr t3 1 [[w]] 0 0] .nil) [] g0:=by
 have rw':=fun h=>(hl.tree (h':=h) (Nat.le_refl _):SlR NoP kk h l w).ints
 have hcp:∀c∈l,0<c:=fun c h=>by have:=hc.c c h;omega
 have hp:=hc.p
 simp only[sz,simprocAttr,cA,cC,hl.len]
 simp only[jH]
 refine aJ (m:=l.length) hl.1 (fun j t df g=>df=[]/\St t [(0,.yld id),(5,.int .i64 (S.aV l i j)),(6,.int .i64 (S.aa (l.drop j))),(11,w)]/\J j g.h/\g0.nx<=g.nx) ⟨rfl,by simp[St,sx,HT hi0 hi],h0,Nat.le_refl _⟩ (by simp[sx]) (by simp[sx]) (by decide) (by rintro j t df g v s (rfl | rfl | rfl)<;>simp[St,sx]) ?_ ?_
 ·rintro j t df g hj ⟨rfl,⟨h0,h5,h6,h11,-⟩,hJ,hn⟩ h13 h12
  obtain ⟨c,hx,-,hm⟩:=au hj
  have hc4:=hc.c c hm
  have u1:j<(l.map ci).length:=by simpa using hj
  have u2:(l.map ci)[j]?=some (ci c):=by rw[List.getElem?_map,hx];rfl
  have hd:=qP hx
  have hst:=Ia hcp hi0 hx
  have hP:1<=S.aa (l.drop (j+1)):=aW fun c hc=>by have:=hcp c (List.mem_of_mem_drop hc);omega
  have hP0:1<=S.aa (l.drop j):=aW fun c hc=>by have:=hcp c (List.mem_of_mem_drop hc);omega
  have hPb:=jP hc j
  have hr0:0<=S.aV l i j:=Int.emod_nonneg _ (by omega)
  have hr1:S.aV l i j<S.aa (l.drop j):=Int.emod_lt_of_pos _ (by omega)
  have q1:ct .quo (.int .i64 (S.aa (l.drop j))) (.int .i64 c)=.val (.int .i64 (S.aa (l.drop (j+1)))):=by rw[wN (by omega) (by omega) (by omega),hd,Int.mul_ediv_cancel_left _ (by omega)]
  have q2:ct .quo (.int .i64 (S.aV l i j)) (.int .i64 (S.aa (l.drop (j+1))))=.val (.int .i64 (S.aR l i j)):=by rw[wN (by omega) (by omega) (by omega),hst.1]
  have q3:ct .rem (.int .i64 (S.aV l i j)) (.int .i64 (S.aa (l.drop (j+1))))=.val (.int .i64 (S.aV l i (j+1))):=by rw[IL (by omega) (by omega) (by omega),hst.2]
  simp only[sz,simprocAttr,h0,h5,h6,h11,h13,rw',u1,u2,ci,q1,q2]
  show (bU (I C0) d id [.int .i64 (j:Int),.int .i64 (S.aR l i j)] g).sat _ _ _
  refine step j g _ _ hj hn hJ (fun g' hJ' hn'=>?_)
  simp only[sz,simprocAttr,h5,h13,q3]
  simp[St,sx,h0,h11,h12,hJ',Nat.le_trans hn hn']
 ·rintro t df g ⟨rfl,-,hJ,hn⟩
  simp only[sx,↓reduceIte]
  exact fin g hJ hn
theorem Ba:C0.ext N.aE=none:=by kernel_rfl
theorem GW {d kk nt y p q t1 t2 t3:Nat}{w:AV}{l:List Int}{i:Int}{ca cb:SC}{Q:QT}{t:T}{g:G}(hl:SlR NoP kk .nil l w)(hc:CdOk l)(hi0:0<=i)(hi:i<S.aa l)(hv:tat t y=ivC t1 t2 t3 w (S.aa l) i)(hp:p<nt)(hq:q<nt)
  (J:Nat->H->Prop) (hJ:∀j h h',(∀i,i<g.nx->h'.get i=h.get i)->J j h->J j h') (h0:J 0 g.h)
  (step:∀(j:Nat) (g1:G),j<l.length->J j g1.h->g.nx+2<=g1.nx ->
   wp C0 d (some (g.nx+1)) ca (fun e t1 df g1'=>e=.norm/\df=[]/\g1'=g1/\∀g2:G,g2.nx=g1.nx->(∀i,i≠g.nx+1->g2.h.get i=g1.h.get i) ->
    wp C0 d (some (g.nx+1)) cb (fun e _ df g3=>df=[]/\RowQ g.nx g2 g3 e (J (j+1) g3.h) False) t1 [] g2)
    (fm (fm t p (.int .i64 (j:Int))) q (.int .i64 (S.aR l i j))) [] g1)
  (fin:∀g',J l.length g'.h->g.nx+2<=g'.nx->g'.h.get g.nx=.dfr true->Q .norm t [.mark g.nx] g') :
  wp C0 d none (.rng nt (.t y) [p,q] ca cb) Q t [] g:=by
 refine om (fn:=N.aE) (first:=[]) (cap:=[.tptr t1 1 [[.int .i64 i]] 0 0,.tptr t2 1 [[.int .i64 (S.aa l)]] 0 0,.tptr t3 1 [[w]] 0 0]) (s:=cA) hv Ba sS (by simp[cA]) ?_
 intro assign body ha hb
 have e1:((g.new (.dfr true)).new (.loop nt t [p,q] assign body g.nx .ready none)).nx=g.nx+2:=by simp
 refine FE (g0:=(g.new (.dfr true)).new (.loop nt t [p,q] assign body g.nx .ready none)) (id:=g.nx+1) hl hc hi0 hi
  (fun j h=>J j h/\h.get g.nx=.dfr true/\h.get (g.nx+1)=.loop nt t [p,q] assign body g.nx .ready none) ?_ ?_ ?_
 ·rintro j g1 K' D hj hn ⟨a1,a2,a3⟩ kk
  rw[e1] at hn
  refine tK a3 ha hb (t':=fm (fm t p (.int .i64 (j:Int))) q (.int .i64 (S.aR l i j))) ?_ ?_
  ·simp only[cB,aa,Nat.blt_eq,if_pos hp,if_pos hq];rfl
  ·refine bY _ (step j g1 hj a1 (by omega)) ?_
   rintro e t1 df g1' ⟨rfl,rfl,rfl,h⟩
   refine ⟨rfl,rfl,rfl,?_⟩
   have hl:g.nx+1<g1'.nx:=by omega
   refine bY _ (h (g1'.put (g.nx+1) (.loop nt t [p,q] assign body g.nx .busy none)) (by simp) (fun i hi=>by simp[H.get_put,hi])) ?_
   rintro e t2 df g3 ⟨rfl,⟨b2,b3,b1⟩⟩
   have b4:g3.h.get (g.nx+1)=.loop nt t [p,q] assign body g.nx .busy none:=by rw[b3 _ (by omega) (by simpa using hl)];simp[H.get_put]
   have b5:g3.h.get g.nx=.dfr true:=by
    rw[b3 _ (by omega) (by simp;omega)];simp[H.get_put,a2]
   refine ⟨rfl,b4,?_⟩
   rcases b1 with ⟨rfl,b1⟩ | ⟨rfl,b1⟩
   ·refine .inl ⟨rfl,kk _ ⟨hJ _ g3.h _ (fun i hi=>by simp[H.get_put,show ¬i=g.nx+1 by omega]) b1,?_,?_⟩ (by simpa using b2)⟩
    ·simp[H.get_put,b5]
    ·simp[H.get_put]
   ·exact b1.elim
 ·refine ⟨hJ 0 g.h _ (fun i hi=>?_) h0,?_,?_⟩
  ·simp[H.get_put,show ¬i=g.nx+1 by omega,show ¬i=g.nx by omega]
  ·simp[H.get_put]
  ·simp[H.get_put]
 ·rintro g' ⟨a1,a2,a3⟩ hn
  rw[e1] at hn
  refine ⟨_,_,_,_,_,_,.inl ⟨a3,fin _ (hJ _ g'.h _ (fun i hi=>by simp[H.get_put,show ¬i=g.nx+1 by omega]) a1) (by simpa using hn) ?_⟩⟩
  simp[H.get_put,a2]
def S.dt (vs st:List Int):Nat->Int
 | 0=>0
 | m+1=>S.dt vs st m+vs[m]?.getD 0*st[m]?.getD 0
theorem Bm {a b st:List Int}:∀{m:Nat},(∀k,k<m->a[k]?.getD 0=b[k]?.getD 0)->S.dt a st m=S.dt b st m
 | 0,_=>rfl
 | m+1,h=>by rw[S.dt,S.dt,Bm fun k hk=>h k (by omega),h m (by omega)]
theorem zW {a st:List Int}{m:Nat}:∀{k:Nat},(∀i,m<=i->a[i]?.getD 0=0)->S.dt a st (m+k)=S.dt a st m
 | 0,_=>rfl
 | k+1,h=>by rw[<-Nat.add_assoc,S.dt,zW h,h _ (by omega),Int.zero_mul,Int.add_zero]
structure StOk (l st:List Int):Prop where
 len:st.length=l.length
 b:∀x∈st,0<=x/\x<=1024
theorem I6 {l st:List Int}(h:StOk l st){k:Nat}(hk:k<l.length):∃s,st[k]?=some s/\0<=s/\s<=1024:=by
 have:=h.len
 obtain ⟨s,hs⟩:∃s,st[k]?=some s:=⟨_,List.getElem?_eq_getElem (by omega)⟩
 exact ⟨s,hs,h.b s (List.mem_of_getElem? hs)⟩
theorem tc {l st vs:List Int}(hc:CdOk l)(h:StOk l st)(hv:InC l vs):∀m,m<=l.length->0<=S.dt vs st m/\S.dt vs st m<=4096*m
 | 0,_=>by simp[S.dt]
 | m+1,hm=>by
  have ih:=tc hc h hv m (by omega)
  obtain ⟨s,hs,s0,s1⟩:=I6 h (k:=m) (by omega)
  obtain ⟨c,hcm⟩:∃c,l[m]?=some c:=⟨_,List.getElem?_eq_getElem (by omega)⟩
  obtain ⟨v,hvm,v0,v1⟩:=hv.get hcm
  have hc4:=hc.c c (List.mem_of_getElem? hcm)
  rw[S.dt,hs,hvm,Option.getD_some,Option.getD_some]
  have h1:0<=v*s:=Int.mul_nonneg v0 s0
  have h2:v*s<=4*1024:=Int.mul_le_mul (by omega) s1 s0 (by omega)
  omega
theorem Mf {l st vs:List Int}(h:StOk l st)(hv:InC l vs){i:Nat}{x s:Int}(hx:vs[i]?=some x)(hs:st[i]?=some s):S.dt (vs.take i++(x+1)::List.replicate (vs.length - (i+1)) 0) st l.length=S.dt vs st (i+1)+s:=by
 have hil:=(List.getElem?_eq_some_iff.1 hx).1
 have hvl:=hv.len
 obtain ⟨k,hk⟩:∃k,l.length=(i+1)+k:=⟨l.length - (i+1),by omega⟩
 have hti:(vs.take i).length=i:=by simp;omega
 rw[hk,zW fun j hj=>?_,S.dt,S.dt]
 ·have e1:S.dt (vs.take i++(x+1)::List.replicate (vs.length - (i+1)) 0) st i=S.dt vs st i:=Bm fun j hj=>by
   rw[List.getElem?_append_left (by omega),List.getElem?_take_of_lt hj]
  have e2:(vs.take i++(x+1)::List.replicate (vs.length - (i+1)) 0)[i]?=some (x+1):=by
   rw[List.getElem?_append_right (by omega),hti,Nat.sub_self];rfl
  rw[e1,e2,hx,hs,Option.getD_some,Option.getD_some,Option.getD_some,Int.add_mul,Int.one_mul]
  omega
 ·rw[List.getElem?_append_right (by omega),hti]
  obtain ⟨p,hp⟩:∃p,j - i=p+1:=⟨j - i - 1,by omega⟩
  rw[hp,List.getElem?_cons_succ,List.getElem?_replicate]
  split<;>rfl
structure EntJ (l st vs:List Int) (L:List (Nat×AV)) (u:AV) (g0:G) (m:Nat) (t:T) (g:G):Prop where
 s7:tat t 7=.int .i64 ((m:Int) - 1)
 at6:tat t 6=.int .i64 (S.dt vs st m)
 ss:St t L
 ow:Own g g0.nx u 1 ((vs.take m++List.replicate (vs.length - m) 0).map ci)
 mx:∀(j:Nat) (c:Int),m<=j->l[j]?=some c->vs[j]?.getD 0=c - 1
def LE_ (id:Nat)(w z u:AV)(k t1 t2:Nat):List (Nat×AV):=[(0,.yld id),(1,.tptr t1 1 [[w]] 0 0),(2,.tptr t2 1 [[z]] 0 0),(4,u),(5,.int .i64 (k:Int))]
theorem Kc {d id k m t1 t2 k1 k2:Nat}{l st:List Int}{w z u:AV}{vs:List Int}{Q:QT}{t:T}{g g0:G}(hc:CdOk l)(hst:StOk l st)(hl:SlR NoP k1 .nil l w)(hs:SlR NoP k2 .nil st z)(hv:InC l vs)(hm:m<=l.length)
  (h0:EntJ l st vs (LE_ id w z u k t1 t2) u g0 m t g)
  (fin:∀m' t g',m'<=l.length->EntJ l st vs (LE_ id w z u k t1 t2) u g0 m' t g'->g.nx<=g'.nx->(∀i,vid u≠some i->g'.h.get i=g.h.get i)->(m'=0\/∃x c,vs[m' - 1]?=some x/\l[m' - 1]?=some c/\x≠c - 1/\0<m')->Q (.exit 2) t [] g') :
  wpL (wp C0 d none cP) Q t [] g:=by
 have rl:=fun h=>(hl.tree (h':=h) (Nat.le_refl _):SlR NoP k1 h l w).ints
 have rs:=fun h=>(hs.tree (h':=h) (Nat.le_refl _):SlR NoP k2 h st z).ints
 have hvl:=hv.len
 have hl8:=hc.l8
 have hsl:=hst.len
 refine oC (fun m t df g'=>df=[]/\m<=l.length/\EntJ l st vs (LE_ id w z u k t1 t2) u g0 m t g'/\g.nx<=g'.nx/\∀i,vid u≠some i->g'.h.get i=g.h.get i) m ⟨rfl,hm,h0,Nat.le_refl _,fun _ _=>rfl⟩ ?_
 rintro m t df g1 ⟨rfl,hm,⟨h7,h6,⟨h0,h1,h2,h4,h5,-⟩,how,hmx⟩,hnx,hfr⟩
 simp only[cP]
 cases m with
 | zero =>
  have c1:¬((0:Int)<=((0:Nat):Int) - 1):=by omega
  simp only[sz,simprocAttr,h7,c1]
  refine fin 0 _ _ (Nat.zero_le _) ⟨?_,?_,?_,how,hmx⟩ hnx hfr (.inl rfl)
  ·simp[sx,h7]
  ·simp[sx,h6]
  ·simp[St,LE_,sx,h0,h1,h2,h4,h5]
 | succ m =>
  have e1:((m+1:Nat):Int) - 1=(m:Int):=by omega
  have c1:(0:Int)<=(m:Int):=by omega
  rw[e1] at h7
  obtain ⟨c,hcm⟩:∃c,l[m]?=some c:=⟨_,List.getElem?_eq_getElem (by omega)⟩
  obtain ⟨v,hvm,v0,v1⟩:=hv.get hcm
  obtain ⟨s,hsm,s0,s1⟩:=I6 hst (k:=m) (by omega)
  have hcx:=hc.c c (List.mem_of_getElem? hcm)
  have u1:m<((vs.take (m+1)++List.replicate (vs.length - (m+1)) 0).map ci).length:=by simp;omega
  have u2:((vs.take (m+1)++List.replicate (vs.length - (m+1)) 0).map ci)[m]?=some (ci v):=by
   rw[List.getElem?_map,List.getElem?_append_left (by simp;omega),List.getElem?_take_of_lt (by omega),hvm];rfl
  have u3:m<(l.map ci).length:=by simp;omega
  have u4:(l.map ci)[m]?=some (ci c):=by rw[List.getElem?_map,hcm];rfl
  have u5:m<(st.map ci).length:=by simp;omega
  have u6:(st.map ci)[m]?=some (ci s):=by rw[List.getElem?_map,hsm];rfl
  have ru:=how.rows
  have w1:IntKind.wrap .i64 (c - 1)=c - 1:=aC (by omega) (by omega)
  by_cases c2:v=c - 1
  ·have hb1:=tc hc hst hv (m+1) (by omega)
   have hb0:=tc hc hst hv m (by omega)
   have hdt:S.dt vs st (m+1)=S.dt vs st m+v*s:=by rw[S.dt,hvm,hsm];rfl
   have hvs:0<=v*s/\v*s<=4096*(m+1:Nat):=⟨Int.mul_nonneg v0 s0,by omega⟩
   have hcs:v*s=(c - 1)*s:=by rw[c2]
   have w2:IntKind.wrap .i64 ((c - 1)*s)=(c - 1)*s:=aC (by omega) (by omega)
   have w3:IntKind.wrap .i64 (S.dt vs st (m+1) - (c - 1)*s)=S.dt vs st m:=by rw[hdt,hcs,aC (by omega) (by omega)];omega
   simp only[sz,simprocAttr,h7,h6,h1,h2,h4,c1,ru,u1,u2,rl,u3,u4,rs,u5,u6,cC,ci,w1,c2,w2,w3]
   refine bC (v:=u) (sz:=1) (n:=1) (i:=m) (off:=0) (x:=.int .i64 0) (row':=ci 0) how u2 rfl rfl rfl fun g4 hu4 n4 f4=>?_
   rw[<-List.map_set,sj (by omega)] at hu4
   have w4:IntKind.wrap .i64 ((m:Int) - 1)=(m:Int) - 1:=aC (by omega) (by omega)
   simp only[sz,simprocAttr,h7,w4]
   refine ⟨m,by omega,by omega,⟨by simp[sx],by simp[sx],by simp[St,LE_,sx,h0,h1,h2,h4,h5],hu4,fun j c hj hc'=>?_⟩,by omega,fun i hi=>by rw[f4 i hi,hfr i hi]⟩
   by_cases e:j=m
   ·subst e
    rw[hcm] at hc';injection hc' with hc'
    rw[hvm,Option.getD_some];omega
   ·exact hmx j c (by omega) hc'
  ·simp only[sz,simprocAttr,h7,h1,h4,c1,ru,u1,u2,rl,u3,u4,cC,ci,w1,c2]
   refine fin (m+1) _ _ hm ⟨?_,?_,?_,how,hmx⟩ hnx hfr (.inr ⟨v,c,hvm,hcm,c2,by omega⟩)
   ·simp[sx,h7]
   ·simp[sx,h6]
   ·simp[St,LE_,sx,h0,h1,h2,h4,h5]
theorem JZ {d id t1 t2 k1 k2:Nat}{l st:List Int}{w z:AV}{g0:G}{K:AV->G->Prop}(hd:0<d)(hc:CdOk l)(hst:StOk l st)(hl:SlR NoP k1 .nil l w)(hs:SlR NoP k2 .nil st z)(J:Nat->H->Prop)(hJ:∀j h h',(∀i,i<g0.nx->h'.get i=h.get i)->J j h->J j h')
  (step:∀(j:Nat) (g:G) (K':AV->G->Prop) (D:ADf->Prop),(j:Int)<S.aa l->g0.nx<=g.nx->J j g.h ->
   (∀g',J (j+1) g'.h->g.nx<=g'.nx->(∀i,g0.nx<=i->i<g.nx->g'.h.get i=g.h.get i)->K' (.bool true) g')->(bU (I C0) d id [.int .i64 (j:Int),.int .i64 (S.dt (S.ak l (j:Int)) st l.length)] g).sat K' g D)
  (h0:J 0 g0.h) (fin:∀g',J (S.aa l).toNat g'.h->g0.nx<=g'.nx->K (.tup []) g') :
  wp C0 d none bw.code (fnQ C0 d bw.res K) (cg 0 [.yld id,.tptr t1 1 [[w]] 0 0,.tptr t2 1 [[z]] 0 0] .nil) [] g0:=by
 have hl8:=hc.l8
 have hcs1:=fun c h=>(hc.c c h).1
 have W1:=aW hcs1
 have W2:=hc.p
 have nl:=hl.len
 have rl:=fun h=>(hl.tree (h':=h) (Nat.le_refl _):SlR NoP k1 h l w).ints
 have rs:=fun h=>(hs.tree (h':=h) (Nat.le_refl _):SlR NoP k2 h st z).ints
 have hsl:=hst.len
 obtain ⟨Wn,hWn⟩:∃Wn,Wn=(S.aa l).toNat:=⟨_,rfl⟩
 obtain ⟨Qf,hQf⟩:∃Qf,Qf=fnQ C0 d bw.res K:=⟨_,rfl⟩
 rw[<-hQf]
 simp only[sz,simprocAttr,bw,cC,nl]
 refine jK (b:=g0.nx) (n:=l.length) (by unfold a_;omega) (by unfold a_;omega) (Nat.le_refl _) fun u g1 hu n1 fr1 v1=>?_
 simp only[sz,simprocAttr]
 obtain ⟨INV,hINV⟩:∃INV:Nat->PT,INV=(fun m t df g=>df=[]/\∃(j:Nat) (vs:List Int),m=Wn - j/\j<Wn/\InC l vs/\S.ah l vs=(j:Int)/\St t (LE_ id w z u j t1 t2)/\tat t 6=.int .i64 (S.dt vs st l.length)/\Own g g0.nx u 1 (vs.map ci)/\J j g.h/\g0.nx<=g.nx):=⟨_,rfl⟩
 refine oC INV Wn ?_ ?_
 ·rw[hINV]
  have hz:∀m,S.dt (List.replicate l.length 0) st m=0:=fun m=>by
   have:=zW (a:=List.replicate l.length (0:Int)) (st:=st) (m:=0) (k:=m) fun i _=>by rw[List.getElem?_replicate];split<;>rfl
   rw[Nat.zero_add] at this;exact this
  exact ⟨rfl,0,List.replicate l.length 0,by omega,by omega,AS hcs1,by rw[tC];rfl,by simp[St,LE_,sx],by rw[hz];simp[sx],by simpa [ci] using hu,hJ 0 _ _ (fun i hi=>fr1 i hi) h0,by omega⟩
 intro m t df g hI
 have hI2:=hI
 rw[hINV] at hI2
 obtain ⟨rfl,j,vs,rfl,hj,hin,hidx,⟨h0,h1,h2,h4,h5,-⟩,h6,ho,hJj,hnx⟩:=hI2
 clear hI
 have hvl:=hin.len
 have hval:S.ak l (j:Int)=vs:=by rw[<-hidx];exact nY hcs1 hin
 have hvu:vid u=some g0.nx:=v1
 have w1:IntKind.wrap .i64 ((l.length:Int) - 1)=(l.length:Int) - 1:=aC (by omega) (by omega)
 obtain ⟨R,hR⟩:∃R,R=sQ [oL 16 1,oN 17 16,o 18 (.bin .sub (.t 17) (qI 1)),oM 7 18] (.seq (.blk 2 (.loop cP)) cK):=⟨_,rfl⟩
 simp only[il]
 rw[<-hR,Aj]
 obtain ⟨Q1,hQ1⟩:∃Q1,Q1=kB 1 (kL INV (Wn - j) (kB 0 Qf)):=⟨_,rfl⟩
 rw[<-hQ1]
 have rest:∀(t:T) (g:G),St t (LE_ id w z u j t1 t2)->tat t 6=.int .i64 (S.dt vs st l.length)->Own g g0.nx u 1 (vs.map ci)->J (j+1) g.h->g0.nx<=g.nx->wp C0 d none R Q1 t [] g:=by
  rintro t g ⟨h0,h1,h2,h4,h5,-⟩ h6 ho hJj hnx
  rw[hR,hQ1]
  simp only[sz,simprocAttr,h1,cC,nl,w1]
  refine Kc (t1:=t1) (t2:=t2) (id:=id) (k:=j) (m:=l.length) (l:=l) (st:=st) (w:=w) (z:=z) (u:=u) (vs:=vs) (g0:=g0) hc hst hl hs hin (Nat.le_refl _) ⟨by simp[sx],by simp[sx,h6],by simp[St,LE_,sx,h0,h1,h2,h4,h5],?_,fun i c hi hc=>?_⟩ ?_
  ·rw[List.take_of_length_le (by omega),show vs.length - l.length=0 by omega]
   simpa using ho
  ·have:=(List.getElem?_eq_some_iff.1 hc).1
   omega
  rintro m' t2 g2 hm' ⟨h7,h6,⟨h0,h1,h2,h4,h5,-⟩,ho2,hmx⟩ hn2 hf2 hcase
  have hJ2:J (j+1) g2.h:=hJ _ _ _ (fun i hi=>hf2 i fun e=>by rw[hvu] at e;injection e with e;omega) hJj
  rcases hcase with rfl | ⟨x,c,hx,hcx,hxc,hm0⟩
  ·have hlast:j+1=Wn:=by
    have:=vI (cs:=l) (vs:=vs) hin.len.symm fun i c hc=>hmx i c (Nat.zero_le _) hc
    omega
   have c1:(((0:Nat):Int) - 1<0):=by omega
   rw[hQf]
   simp only[sz,simprocAttr,cK,bw,h7,c1]
   rw[hlast,hWn] at hJ2
   exact fin g2 hJ2 (by omega)
  ·obtain ⟨i,rfl⟩:∃i,m'=i+1:=⟨m' - 1,by omega⟩
   rw[Nat.add_sub_cancel] at hx hcx
   have hil:=(List.getElem?_eq_some_iff.1 hx).1
   have e1:((i+1:Nat):Int) - 1=(i:Int):=by omega
   rw[e1] at h7
   have c1:¬((i:Int)<0):=by omega
   have u1:i<((vs.take (i+1)++List.replicate (vs.length - (i+1)) 0).map ci).length:=by simp;omega
   have u2:((vs.take (i+1)++List.replicate (vs.length - (i+1)) 0).map ci)[i]?=some (ci x):=by
    rw[List.getElem?_map,List.getElem?_append_left (by simp;omega),List.getElem?_take_of_lt (by omega),hx];rfl
   obtain ⟨s,hsm,s0,s1⟩:=I6 hst (k:=i) (by omega)
   have u5:i<(st.map ci).length:=by simp;omega
   have u6:(st.map ci)[i]?=some (ci s):=by rw[List.getElem?_map,hsm];rfl
   have ru:=ho2.rows
   obtain ⟨x',hx',hx0,hx1⟩:=hin.get hcx
   rw[Au hx' hx] at hx0 hx1
   have hcb:=hc.c c (List.mem_of_getElem? hcx)
   have w2:IntKind.wrap .i64 (x+1)=x+1:=aC (by omega) (by omega)
   have hb:=tc hc hst hin (i+1) (by omega)
   have hdi:=Mf hst hin hx hsm
   have w4:IntKind.wrap .i64 (S.dt vs st (i+1)+s)=S.dt (vs.take i++(x+1)::List.replicate (vs.length - (i+1)) 0) st l.length:=by rw[hdi,aC (by omega) (by omega)]
   simp only[sz,simprocAttr,cK,h7,c1,h4,ru,u1,u2,ci,w2]
   refine bC (v:=u) (sz:=1) (n:=1) (i:=i) (off:=0) (x:=.int .i64 (x+1)) (row':=ci (x+1)) ho2 u2 rfl rfl rfl fun g4 hu4 n4 f4=>?_
   rw[<-List.map_set,th hil] at hu4
   have hin2:=AW hin hcs1 hx hcx hxc
   have hidx2:=AM (cs:=l) (vs:=vs) hin.len.symm hx fun k c hk hc=>hmx k c (by omega) hc
   rw[hidx] at hidx2
   have hlt2:=bV hc.c hin2
   have w3:IntKind.wrap .i64 ((j:Int)+1)=((j+1:Nat):Int):=by rw[aC (by omega) (by omega)];rfl
   simp only[sz,simprocAttr,h5,h6,h2,h7,rs,u5,u6,ci,cC,w3,w4]
   refine ⟨Wn - (j+1),by omega,?_⟩
   rw[hINV]
   refine ⟨rfl,j+1,_,rfl,by omega,hin2,by rw[hidx2];rfl,by simp[St,LE_,sx,h0,h1,h2,h4],by simp[sx],hu4,hJ _ _ _ (fun i hi=>f4 i fun e=>by rw[hvu] at e;injection e with e;omega) hJ2,by omega⟩
 rw[dL]
 simp only[sz,simprocAttr,h0,h5,h6]
 have stp:=fun K' D=>step j g K' D (by omega) hnx hJj
 rw[hval] at stp
 show (bU (I C0) d id [.int .i64 (j:Int),.int .i64 (S.dt vs st l.length)] g).sat _ _ _
 refine stp _ _ (fun g' hJ' hn' hf'=>?_)
 simp only[sz,simprocAttr]
 exact rest _ _ (by simp[St,LE_,sx,h0,h1,h2,h4,h5]) (by simp[sx,h6]) (ho.fr hn' fun i hi=>hf' i (ho.lt hi).1 (ho.lt hi).2) hJ' (by omega)
theorem Fy:C0.ext N.aa=none:=by kernel_rfl
theorem JS {d nt p q r t1 t2 k1 k2:Nat}{l st:List Int}{w z:AV}{ca cb:SC}{Q:QT}{t:T}{g:G}(hd:0<d)(hc:CdOk l)(hst:StOk l st)(hl:SlR NoP k1 .nil l w)(hs:SlR NoP k2 .nil st z)
  (hv:tat t r=.clo N.aa [] [.tptr t1 1 [[w]] 0 0,.tptr t2 1 [[z]] 0 0]) (hp:p<nt) (hq:q<nt)
  (J:Nat->H->Prop) (hJ:∀j h h',(∀i,i<g.nx->h'.get i=h.get i)->J j h->J j h') (h0:J 0 g.h)
  (step:∀(j:Nat) (g1:G),(j:Int)<S.aa l->J j g1.h->g.nx+2<=g1.nx ->
   wp C0 d (some (g.nx+1)) ca (fun e t1 df g1'=>e=.norm/\df=[]/\g1'=g1/\∀g2:G,g2.nx=g1.nx->(∀i,i≠g.nx+1->g2.h.get i=g1.h.get i) ->
    wp C0 d (some (g.nx+1)) cb (fun e _ df g3=>df=[]/\RowQ g.nx g2 g3 e (J (j+1) g3.h) False) t1 [] g2)
    (fm (fm t p (.int .i64 (j:Int))) q (.int .i64 (S.dt (S.ak l (j:Int)) st l.length))) [] g1)
  (fin:∀g',J (S.aa l).toNat g'.h->g.nx+2<=g'.nx->g'.h.get g.nx=.dfr true->Q .norm t [.mark g.nx] g') :
  wp C0 d none (.rng nt (.t r) [p,q] ca cb) Q t [] g:=by
 refine om (fn:=N.aa) (first:=[]) (cap:=[.tptr t1 1 [[w]] 0 0,.tptr t2 1 [[z]] 0 0]) (s:=bw) hv Fy qS (by simp[bw]) ?_
 intro assign body ha hb
 have e1:((g.new (.dfr true)).new (.loop nt t [p,q] assign body g.nx .ready none)).nx=g.nx+2:=by simp
 refine JZ (g0:=(g.new (.dfr true)).new (.loop nt t [p,q] assign body g.nx .ready none)) (id:=g.nx+1) hd hc hst hl hs
  (fun j h=>J j h/\h.get g.nx=.dfr true/\h.get (g.nx+1)=.loop nt t [p,q] assign body g.nx .ready none) ?_ ?_ ?_ ?_
 ·rintro j h h' hh ⟨a1,a2,a3⟩
  rw[e1] at hh
  exact ⟨hJ j h h' (fun i hi=>hh i (by omega)) a1,by rw[hh _ (by omega),a2],by rw[hh _ (by omega),a3]⟩
 ·rintro j g1 K' D hj hn ⟨a1,a2,a3⟩ kk
  rw[e1] at hn kk
  refine tK a3 ha hb (t':=fm (fm t p (.int .i64 (j:Int))) q (.int .i64 (S.dt (S.ak l (j:Int)) st l.length))) ?_ ?_
  ·simp only[cB,aa,Nat.blt_eq,if_pos hp,if_pos hq];rfl
  ·refine bY _ (step j g1 hj a1 (by omega)) ?_
   rintro e t1 df g1' ⟨rfl,rfl,rfl,h⟩
   refine ⟨rfl,rfl,rfl,?_⟩
   have hl:g.nx+1<g1'.nx:=by omega
   refine bY _ (h (g1'.put (g.nx+1) (.loop nt t [p,q] assign body g.nx .busy none)) (by simp) (fun i hi=>by simp[H.get_put,hi])) ?_
   rintro e t2 df g3 ⟨rfl,⟨b2,b3,b1⟩⟩
   have b4:g3.h.get (g.nx+1)=.loop nt t [p,q] assign body g.nx .busy none:=by rw[b3 _ (by omega) (by simpa using hl)];simp[H.get_put]
   have b5:g3.h.get g.nx=.dfr true:=by
    rw[b3 _ (by omega) (by simp;omega)];simp[H.get_put,a2]
   refine ⟨rfl,b4,?_⟩
   have b2':g1'.nx<=g3.nx:=by simpa using b2
   rcases b1 with ⟨rfl,b1⟩ | ⟨rfl,b1⟩
   ·refine .inl ⟨rfl,kk _ ⟨hJ _ g3.h _ (fun i hi=>by simp[H.get_put,show ¬i=g.nx+1 by omega]) b1,?_,?_⟩ (by simpa using b2') fun i h1 h2=>?_⟩
    ·simp[H.get_put,b5]
    ·simp[H.get_put]
    ·have hne:¬i=g.nx+1:=by omega
     have:=b3 i (by omega) (by simp;omega)
     simp[H.get_put,hne] at this ⊢
     rw[this]
   ·exact b1.elim
 ·refine ⟨hJ 0 g.h _ (fun i hi=>?_) h0,?_,?_⟩
  ·simp[H.get_put,show ¬i=g.nx+1 by omega,show ¬i=g.nx by omega]
  ·simp[H.get_put]
  ·simp[H.get_put]
 ·rintro g' ⟨a1,a2,a3⟩ hn
  rw[e1] at hn
  refine ⟨_,_,_,_,_,_,.inl ⟨a3,fin _ (hJ _ g'.h _ (fun i hi=>by simp[H.get_put,show ¬i=g.nx+1 by omega]) a1) (by simpa using hn) ?_⟩⟩
  simp[H.get_put,a2]
theorem qK:∀(ids:List Nat) (g:G),(bg g ids).nx=g.nx
 | [],_=>rfl
 | i::is,g=>by
  rw[bg]
  split
  ·rw[qK is];simp
  ·exact qK is g
theorem nZ:∀(ids:List Nat) (g:G) (i:Nat),i ∉ ids->(bg g ids).h.get i=g.h.get i
 | [],_,_,_=>rfl
 | j::is,g,i,h=>by
  have h1:i≠j:=fun e=>h (by simp[e])
  have h2:i ∉ is:=fun e=>h (by simp[e])
  rw[bg]
  split
  ·rw[nZ is _ i h2];simp[H.get_put,h1]
  ·exact nZ is g i h2
theorem MJ {C:Cfg}{d f m:Nat}{g g1:G}{args xs:List AV}{r r1 r2:AV}(hs:aB (Hx.snap g.h d af) args=some xs)(hc:(I C).call (d+1) f xs G.empty=.ok r g1)(h1:Hx.snap g1.h 0 af r=some r1)(h2:bK af r1=some d)
  (h3:bo d af r1=some r2) (h4:bK af r2=some m) (hm:m<d):ap (I C) d g f args=.upd r2 (bg g (args.flatMap (ah g.h af))):=by
 unfold ap
 rw[hs]
 dsimp only
 rw[hc]
 dsimp only
 rw[h1]
 dsimp only
 rw[h2]
 dsimp only
 rw[h3]
 dsimp only
 rw[h4]
 dsimp only
 have e1:Nat.blt d d=false:=by rw[Bool.eq_false_iff];intro h;rw[Nat.blt_eq] at h;omega
 have e2:Nat.blt m d=true:=by rw[Nat.blt_eq];exact hm
 rw[e1,e2]
theorem uk {α β:Type}{f:α->Option β}{h:α->β}:∀{l:List α},(∀x∈l,f x=some (h x))->aB f l=some (l.map h)
 | [],_=>rfl
 | x::l,hh=>by rw[aB,hh x (by simp),uk fun y hy=>hh y (by simp[hy])];rfl
theorem za {h:H}{tag n:Nat}(l:List Int):aB (aB (Hx.snap h tag (n+1))) (l.map ci)=some (l.map ci):=by
 have:=uk (f:=aB (Hx.snap h tag (n+1))) (h:=id) (l:=l.map ci) fun x hx=>by
  obtain ⟨y,-,rfl⟩:=List.mem_map.1 hx
  rfl
 rw[this,List.map_id]
theorem DF {d n:Nat}(l:List Int):aB (aB (bo d (n+1))) (l.map ci)=some (l.map ci):=by
 have:=uk (f:=aB (bo d (n+1))) (h:=id) (l:=l.map ci) fun x hx=>by
  obtain ⟨y,-,rfl⟩:=List.mem_map.1 hx
  rfl
 rw[this,List.map_id]
theorem s8:∀(l:List Int),c_ (l.map ci)=some 0
 | []=>rfl
 | x::l=>by
  have ih:=s8 l
  rw[c_] at ih ⊢
  rw[List.map_cons,di,ih]
  rfl
theorem nM {h:H}{n:Nat}:∀(l:List (List AV)),(∀r∈l,∃x:Int,r=ci x)->l.flatMap (·.flatMap (ah h (n+1)))=[]
 | [],_=>rfl
 | r::l,hr=>by
  obtain ⟨x,rfl⟩:=hr r (by simp)
  rw[List.flatMap_cons,nM l fun r h=>hr r (by simp[h])]
  rfl
theorem Ji {h:H}{d q ep:Nat}{lo:Bool}{fz:Bool}{l:List Int}(hq:h.get q=.cells 1 (l.map ci) ep lo fz)(n:Nat):Hx.snap h d (n+2) (.hsl q ep 0 l.length none)=some (.tsl d 1 (l.map ci)):=by
 rw[Hx.snap]
 simp only[hq,Nat.beq_refl,Bool.true_and,aq,List.length_map,Nat.zero_add,aa,Nat.ble_eq,Nat.le_refl,if_true]
 have e:fS l.length (fp 0 (l.map ci))=l.map ci:=by rw[aT,aU,List.drop_zero,List.take_of_length_le (by simp)]
 rw[e,za]
 dsimp only
 rw[s8]
 dsimp only
 rw[show Nat.max d 0=d from Nat.max_eq_left (Nat.zero_le d)]
theorem B3 {h:H}{q ep:Nat}{lo fz:Bool}{l:List Int}(hq:h.get q=.cells 1 (l.map ci) ep lo fz)(n:Nat):ah h (n+2) (.hsl q ep 0 l.length none)=[q]:=by
 rw[ah]
 simp only[hq]
 rw[nM]
 intro r hr
 rw[aT,aU] at hr
 obtain ⟨x,-,rfl⟩:=List.mem_map.1 (List.mem_of_mem_drop (List.mem_of_mem_take hr))
 exact ⟨x,rfl⟩
theorem ze {d n:Nat}(l:List Int):bo d (n+2) (.tsl d 1 (l.map ci))=some (.tsl 0 1 (l.map ci)):=by
 rw[bo]
 simp only[Nat.beq_refl,aa,if_true]
 rw[DF]
 dsimp only
 rw[s8]
theorem py {k d n:Nat}{h:H}{l:List Int}{v:AV}(hv:SlR NoP k .nil l v)(hk:k<d):Hx.snap h d (n+1) v=some v/\ah h (n+1) v=[]/\bo d (n+1) v=some v/\∃m,bK (n+1) v=some m/\m<=k:=by
 have r:=hv.2
 unfold SlV at r
 split at r
 ·exact ⟨rfl,rfl,rfl,0,rfl,Nat.zero_le _⟩
 ·exact ⟨rfl,rfl,rfl,0,rfl,Nat.zero_le _⟩
 ·rename_i t s rows
  refine ⟨rfl,rfl,?_,t,rfl,r.1⟩
  rw[bo]
  have:Nat.beq t d=false:=by rw[Bool.eq_false_iff];intro e;have:=Nat.eq_of_beq_eq_true e;omega
  rw[this]
 ·exact r.1.elim
 ·exact r.elim
theorem Kp {d kk q ep:Nat}{lo fz:Bool}{g:G}{v:AV}{l st:List Int}(hd:0<d)(hl:SlR NoP kk .nil l v)(hk:kk<d)(hq:g.h.get q=.cells 1 (st.map ci) ep lo fz) :
  ∃t1,an C0 d N.aD [v,.hsl q ep 0 st.length none] g=.upd (.clo N.aa [] [.tptr t1 1 [[v]] 0 0,.tptr 0 1 [[.tsl 0 1 (st.map ci)]] 0 0]) (bg g [q]):=by
 obtain ⟨f1,f2,f3,m,f4,f5⟩:=py (n:=23) (h:=g.h) hl hk
 have hs:aB (Hx.snap g.h d af) [v,.hsl q ep 0 st.length none]=some [v,.tsl d 1 (st.map ci)]:=by
  simp only[aB]
  rw[show af=23+1 from rfl,f1]
  dsimp only
  rw[show (23+1:Nat)=22+2 from rfl,Ji hq 22]
 have key:=lQ (C:=C0) (d:=d+1) (f:=N.aD) («as»:=[v,.tsl d 1 (st.map ci)]) (g:=G.empty) (K:=fun r g'=>r=.clo N.aa [] [.hptr 0 0 0 0,.hptr 1 0 0 0]/\g'.h.get 0=.cells 1 [[v]] 0 false false/\g'.h.get 1=.cells 1 [[.tsl d 1 (st.map ci)]] 0 false false) sP (by simp[iC]) ?_
 ·cases hc:(I C0).call (d+1) N.aD [v,.tsl d 1 (st.map ci)] G.empty with
  | fail=>rw[hc] at key;exact key.elim
  | ok r g1 =>
   rw[hc] at key
   obtain ⟨rfl,k0,k1⟩:=key
   have tg:∀(v:AV) (m:Nat),bK af v=some m->c_ [[v]]=some m:=fun v m h=>by
    have:Nat.max (Nat.max m 0) 0=m:=by show max (max m 0) 0=m;omega
    simp only[c_,di,h,this]
   have sp:∀(i:Nat) (z:AV) (m:Nat),g1.h.get i=.cells 1 [[z]] 0 false false->(∀n,Hx.snap g1.h 0 (n+1) z=some z)->bK af z=some m->∀n,Hx.snap g1.h 0 (n+2) (.hptr i 0 0 0)=some (.tptr m 1 [[z]] 0 0):=fun i z m hi hz hm n=>by
    rw[Hx.snap]
    simp only[hi,Nat.beq_refl,aa,if_true,aB,hz]
    rw[tg z m hm]
    dsimp only
    rw[show Nat.max 0 m=m from Nat.max_eq_right (Nat.zero_le m)]
   have s1:=sp 0 v m k0 (fun n=>(py (n:=n) (h:=g1.h) hl hk).1 |> fun h=>by
    obtain ⟨a1,-⟩:=py (d:=0+d) (n:=n) (h:=g1.h) hl (by omega)
    have r:=hl.2
    unfold SlV at r
    split at r<;>first | rfl | exact r.1.elim | exact r.elim) f4
   have s2:=sp 1 (.tsl d 1 (st.map ci)) d k1 (fun n=>rfl) rfl
   have r1:Hx.snap g1.h 0 af (.clo N.aa [] [.hptr 0 0 0 0,.hptr 1 0 0 0])=some (.clo N.aa [] [.tptr m 1 [[v]] 0 0,.tptr d 1 [[.tsl d 1 (st.map ci)]] 0 0]):=by
    rw[show af=23+1 from rfl,Hx.snap]
    simp only[aB,s1 21,s2 21]
   have r2:bK af (.clo N.aa [] [.tptr m 1 [[v]] 0 0,.tptr d 1 [[.tsl d 1 (st.map ci)]] 0 0])=some d:=by
    show some (Nat.max m (Nat.max d 0))=some d
    congr 1
    show max m (max d 0)=d
    omega
   have r3:bo d af (.clo N.aa [] [.tptr m 1 [[v]] 0 0,.tptr d 1 [[.tsl d 1 (st.map ci)]] 0 0])=some (.clo N.aa [] [.tptr m 1 [[v]] 0 0,.tptr 0 1 [[.tsl 0 1 (st.map ci)]] 0 0]):=by
    have e1:Nat.beq m d=false:=by rw[Bool.eq_false_iff];intro e;have:=Nat.eq_of_beq_eq_true e;omega
    have u1:bo d 23 (.tptr m 1 [[v]] 0 0)=some (.tptr m 1 [[v]] 0 0):=by rw[bo,e1]
    have u2:bo d 23 (.tptr d 1 [[.tsl d 1 (st.map ci)]] 0 0)=some (.tptr 0 1 [[.tsl 0 1 (st.map ci)]] 0 0):=by
     rw[bo]
     simp only[Nat.beq_refl,aa,if_true,aB]
     rw[show (22:Nat)=20+2 from rfl,ze]
     rfl
    rw[show af=23+1 from rfl,bo]
    simp only[aB,u1,u2]
   have r4:bK af (.clo N.aa [] [.tptr m 1 [[v]] 0 0,.tptr 0 1 [[.tsl 0 1 (st.map ci)]] 0 0])=some (Nat.max m (Nat.max 0 0)):=rfl
   refine ⟨m,?_⟩
   rw[qU,MJ hs hc r1 r2 r3 r4 (by show max m (max 0 0)<d;omega)]
   congr 1
   simp only[List.flatMap_cons,List.flatMap_nil,List.append_nil]
   rw[show af=23+1 from rfl,f2,show (23+1:Nat)=22+2 from rfl,B3 hq 22]
   rfl
 ·simp only[sz,simprocAttr,iC,ku,sY,Co hl]
end
end Hx
end
