/- A part of the proof: an interpreter over abstract values, shown right against the model, and what the functions of the chapter compute on it. -/
import Derived.Test.YtfpjoiojhegfaaaDoorHx10
set_option linter.unusedVariables false
set_option linter.unusedSimpArgs false
set_option linter.unnecessarySimpa false
section
namespace Hx
open Go
abbrev QnM:Type:=Net×List Factor×List (List Int)
theorem qV {P:Nat->Prop}{k:Nat}{h:H}{x:QnM}{cs:List AV}:Rp.rp P k h x cs↔∃a b c,cs=[.int .i64 x.1.grain,a,b,c]/\SlR P k h x.1.nodes a/\SlR P k h x.2.1 b/\SlR P k h x.2.2 c:=by
 constructor
 ·rintro ⟨c1,c2,rfl,h1,c3,c4,rfl,⟨b,rfl,hb⟩,⟨c,rfl,hc⟩⟩
  obtain ⟨a,rfl,ha⟩:=lT.1 h1
  exact ⟨a,b,c,rfl,ha,hb,hc⟩
 ·rintro ⟨a,b,c,rfl,ha,hb,hc⟩
  exact ⟨[_,a],[b,c],rfl,lT.2 ⟨a,rfl,ha⟩,[b],[c],rfl,⟨b,rfl,hb⟩,⟨c,rfl,hc⟩⟩
theorem E6 {n:Net}(h:NR n){k:Nat}{x:Node}(hx:n.nodes[k]?=some x):(k:Int) ∉ x.parents:=fun hm=>by
 have hk:=(List.getElem?_eq_some_iff.1 hx).1
 have hl:=h.l2
 have h1:=rx.1 h.acyc k (by simp[S.ak];exact hk)
 have h2:Par (S.ak n) k=S.ax x.parents:=by simp[Par,S.ak,hx]
 have h3:(S.ax x.parents).testBit k=true:=(rL fun y hy=>by have:=bU (h.places x (List.mem_of_getElem? hx)) y hy;omega).2 hm
 have h4:=q9 (p:=S.ak n) (s:=Par (S.ak n) k) (S.ak n).length k (by rw[h2];exact h3)
 rw[h1] at h4;cases h4
theorem DS {l:List Int}{k:Int}(h:S.bf l k=true):l.Nodup:=by
 rw[List.Nodup,List.pairwise_iff_getElem]
 intro i j hi hj hij e
 have:=Ez h (List.getElem?_eq_getElem hi) (List.getElem?_eq_getElem hj) hij
 omega
theorem FZ {n:Net}(h:NR n){k:Nat}{x:Node}(hx:n.nodes[k]?=some x)(p:Nat):(S.aA x.parents p (k:Int)).Nodup:=by
 unfold S.aA
 rw[List.perm_middle.nodup_iff,List.take_append_drop,List.nodup_cons]
 exact ⟨E6 h hx,DS (h.places x (List.mem_of_getElem? hx))⟩
theorem u0 {n:Net}(h:NR n){k:Nat}{x:Node}(hx:n.nodes[k]?=some x)(p:Nat):∀y∈S.aA x.parents p (k:Int),0<=y/\y<n.nodes.length:=fun y hy=>by
 have hk:=(List.getElem?_eq_some_iff.1 hx).1
 have hp:=bU (h.places x (List.mem_of_getElem? hx))
 simp only[S.aA,List.mem_append,List.mem_cons] at hy
 rcases hy with hy | rfl | hy
 ·exact hp y (List.mem_of_mem_take hy)
 ·omega
 ·exact hp y (List.mem_of_mem_drop hy)
theorem kw (cs ps:List Int):(S.af cs ps).length=ps.length:=by simp[S.af]
theorem EC {n:Net}(h:NR n){k:Nat}{x:Node}(hx:n.nodes[k]?=some x)(p:Nat):∀c∈(S.aP n k x p).cards,1<=c/\c<=4 :=
 ba h.cs fun y hy=>by rw[aM];exact u0 h hx p y hy
def S.bG (m:Nat)(f:Factor)(i:Nat)(R:List Int):Prop:=R.length=m/\∀(j:Nat) (y:Int),i<=j->f.vars[j]?=some y->R[y.toNat]?=some (S.ae (f.cards.drop (j+1)))
theorem Ba {m i:Nat}{f:Factor}{R:List Int}{y:Int}(h:S.bG m f (i+1) R)(hnd:f.vars.Nodup)(hin:∀y∈f.vars,0<=y/\y<m)(hy:f.vars[i]?=some y):S.bG m f i (R.set y.toNat (S.ae (f.cards.drop (i+1)))):=by
 refine ⟨by simp[h.1],fun j z hij hz=>?_⟩
 have hyi:=hin y (List.mem_of_getElem? hy)
 have hzi:=hin z (List.mem_of_getElem? hz)
 by_cases e:j=i
 ·subst e
  rw[hy] at hz;injection hz with hz;subst hz
  rw[List.getElem?_set_self (by rw[h.1];omega)]
 ·rw[List.getElem?_set_ne]
  ·exact h.2 j z (by omega) hz
  ·intro e2
   have e3:y=z:=by omega
   subst e3
   exact e ((List.getElem?_inj (List.getElem?_eq_some_iff.1 hz).1 hnd).1 (by rw[hz,hy]))
structure QnOk (n:Net) (y:QnM):Prop where
 net:y.1=n
 fl:y.2.1.length=n.nodes.length
 fs:S.bS n y.2.1
 sl:y.2.2.length=n.nodes.length
 st:∀(k:Nat) (f:Factor) (R:List Int),y.2.1[k]?=some f->y.2.2[k]?=some R->S.bG n.nodes.length f 0 R
def S.aW (n:Net)(ls:List (List Int)):Int:=if S.aQ n then (if ls.all (S.bo n) then 0 else 2) else 50
def HZ (n:Net)(ls:List (List Int)):VS:=fun P k h v=>∃y:QnM,(S.aW n ls=0->QnOk n y)/\rA (Agg y) (One (S.aW n ls)) P k h v
end Hx
end
section
namespace Hx
open Go
noncomputable section
def zJ (fl:AV)(m q k:Nat):List (Nat×AV):=[(11,.hptr q 0 0 0),(2,.hptr 0 0 0 0),(4,.hptr 1 0 0 0),(45,fl),(46,.int .i64 (m:Int)),(47,.int .i64 (k:Int))]
structure AskI (fl:AV) (m q k:Nat) (g0:G) (iR:Nat) (R:AV) (f:Factor) (fb j:Nat) (t:T) (g:G):Prop where
 st:St t ((13,.hptr fb 0 0 0)::(12,.int .i64 (k:Int))::(14,.int .i64 (S.ae (f.cards.drop j)))::zJ fl m q k)
 nx:g0.nx<=g.nx
 fr:∀i,i<g0.nx->i≠iR->g.h.get i=g0.h.get i
 ow:∃X:List Int,Own g 2 R 1 (X.map ci)/\S.bG m f j X
theorem Ko {d m q k fb iR:Nat}{gr:Int}{va ca wa S_ R b fl fl':AV}{f:Factor}{rowsS:List (List AV)}{Q:QT}{t:T}{g g0:G}(hva:SlR NoP 0 .nil f.vars va)(hca:SlR NoP 0 .nil f.cards ca)(hcl:f.cards.length=f.vars.length)(hvl:f.vars.length<=16)(hcb:∀c∈f.cards,1<=c/\c<=4)(hnd:f.vars.Nodup)(hin:∀y∈f.vars,0<=y/\y<m)
  (e11:g0.h.get q=.cells 4 [[.int .i64 gr,b,fl',S_]] 0 false false) (e13:g0.h.get fb=.cells 3 [[va,ca,wa]] 0 false false) (hS:Own g0 2 S_ 1 rowsS) (hk:rowsS[k]?=some [R]) (vR:vid R=some iR) (vS:vid S_≠some iR) (n1:q≠iR/\fb≠iR) (n2:q<g0.nx/\fb<g0.nx/\iR<g0.nx)
  (h0:AskI fl m q k g0 iR R f fb f.vars.length t g) (h15:tat t 15=.int .i64 ((f.vars.length:Int) - 1))
  (fin:∀t g,AskI fl m q k g0 iR R f fb 0 t g->Q (.exit 4) t [] g):wpL (wp C0 d none km) Q t [] g:=by
 have rva:=fun h=>(hva.tree (h':=h) (Nat.le_refl 0)).ints
 have rca:=fun h=>(hca.tree (h':=h) (Nat.le_refl 0)).ints
 simp only[km]
 refine GG (m:=f.vars.length) (by omega) (fun j t df g=>df=[]/\AskI fl m q k g0 iR R f fb j t g) ⟨rfl,h0⟩ h15 (by decide)
  (by rintro j t df g v s (rfl | rfl | rfl | rfl | rfl) ⟨a1,⟨b1,b2,b3,b4,b5,b6,b7,b8,b9,-⟩,c1,c2,c3⟩<;>exact ⟨a1,by simp[St,zJ,sx,b1,b2,b3,b4,b5,b6,b7,b8,b9],c1,c2,c3⟩) ?_ ?_
 ·rintro j t df g hj ⟨rfl,⟨h13,h12,h14,h11,h2,h4,h45,h46,h47,-⟩,hnx,hfr,X,hX,hst⟩ h15
  obtain ⟨y,hy,-,hym⟩:=aw hj
  obtain ⟨hy0,hym⟩:=hin y hym
  obtain ⟨yn,rfl⟩:=Int.eq_ofNat_of_zero_le hy0
  have hcj:f.cards[j]?=some f.cards[j]:=List.getElem?_eq_getElem (by omega)
  have hcb1:=hcb _ (List.getElem_mem (show j<f.cards.length by omega))
  have hdr:f.cards.drop j=f.cards[j]::f.cards.drop (j+1):=List.drop_eq_getElem_cons (by omega)
  generalize f.cards[j]=c at hcj hcb1 hdr
  have u1:j<(f.vars.map ci).length:=by simpa using hj
  have u2:(f.vars.map ci)[j]?=some (ci (yn:Int)):=by rw[List.getElem?_map,hy];rfl
  have u3:j<(f.cards.map ci).length:=by simp;omega
  have u4:(f.cards.map ci)[j]?=some (ci c):=by rw[List.getElem?_map,hcj];rfl
  have hXl:=hst.1
  have hylt:yn<X.length:=by omega
  have u5:yn<(X.map ci).length:=by simpa using hylt
  have u6:(X.map ci)[yn]?=some (ci X[yn]):=by rw[List.getElem?_map,List.getElem?_eq_getElem hylt];rfl
  have k11:g.h.get q=.cells 4 [[.int .i64 gr,b,fl',S_]] 0 false false:=by rw[hfr q n2.1 n1.1,e11]
  have k13:g.h.get fb=.cells 3 [[va,ca,wa]] 0 false false:=by rw[hfr fb n2.2.1 n1.2,e13]
  have hS':Own g 2 S_ 1 rowsS:=hS.fr hnx fun i hi=>hfr i (hS.lt hi).2 fun e=>vS (by rw[hi,e])
  have rS:=hS'.rows
  have rX:=hX.rows
  have kl:k<rowsS.length:=(List.getElem?_eq_some_iff.1 hk).1
  have w0:S.ae (f.cards.drop j)=S.ae (f.cards.drop (j+1))*c:=by rw[hdr,bV,Int.mul_comm]
  have hpb:=bX (l:=f.cards.drop j) fun c hc=>hcb c (List.mem_of_mem_drop hc)
  have hp4:=dG (a:=(f.cards.drop j).length) (b:=16) (by simp;omega)
  have h48:(4:Int) ^ 16=4294967296:=by decide
  have w1:IntKind.wrap .i64 (S.ae (f.cards.drop (j+1))*c)=S.ae (f.cards.drop j):=by rw[<-w0,aH (by omega) (by omega)]
  have hst':=Ba hst hnd hin hy
  rw[Int.toNat_natCast] at hst'
  simp only[sz,simprocAttr,sf,h11,h12,h13,h14,h15,k11,k13,rva,u1,u2,rS,kl,hk,rX,u5,ci]
  refine cq (v:=R) (sz:=1) (n:=1) (i:=yn) (off:=0) (x:=.int .i64 (S.ae (f.cards.drop (j+1)))) (row':=ci (S.ae (f.cards.drop (j+1)))) (hX.fr (by simp;omega) fun i _=>by simp) u6 rfl rfl rfl fun g4 hu4 n4 f4=>?_
  rw[<-List.map_set] at hu4
  have f4':∀i,i≠iR->g4.h.get i=g.h.get i:=fun i hi=>by rw[f4 i (by rw[vR];intro e;injection e with e;exact hi e.symm)];simp
  have n4':g.nx<=g4.nx:=by rw[n4];simp;omega
  simp only[sz,simprocAttr]
  refine ⟨?_,?_⟩
  ·simp only[List.reverse_cons,List.reverse_nil,List.nil_append,List.cons_append]
   exact bj [false,false,false,false,false,false,false,false,false,false,false,false,true] [] (by simp[All2,am,aD]) (by decide) (by simp)
  have k13':g4.h.get fb=.cells 3 [[va,ca,wa]] 0 false false:=by rw[f4' fb n1.2,k13]
  simp only[sz,simprocAttr,h13,h14,h15,k13',rca,u3,u4,ci,w1]
  refine ⟨by simp[St,zJ,sx,h13,h12,h11,h2,h4,h45,h46,h47],?_,fun i h1 h2=>?_,_,hu4.fr (by simp) fun i _=>by simp,hst'⟩
  ·simp;omega
  ·simp only[bumpG_h]
   rw[f4' i h2,hfr i h1 h2]
 ·rintro t df g ⟨rfl,h⟩
  exact fin t g h
structure FOk (m:Nat) (f:Factor):Prop where
 cl:f.cards.length=f.vars.length
 vl:f.vars.length<=16
 cb:∀c∈f.cards,1<=c/\c<=4
 nd:f.vars.Nodup
 vr:∀y∈f.vars,0<=y/\y<m
theorem Fi {n:Net}(h:NR n){k:Nat}{x:Node}(hx:n.nodes[k]?=some x){p:Nat}(hp:p<=x.parents.length):FOk n.nodes.length (S.aP n k x p):=by
 have h1:=nI (h.places x (List.mem_of_getElem? hx)) (by omega)
 have h2:=h.l2
 have h3:=pM x.parents p (k:Int) hp
 exact ⟨kw _ _,by show (S.aA x.parents p (k:Int)).length<=16;omega,EC h hx p,FZ h hx p,u0 h hx p⟩
structure AskH (gr:Int) (b fl S_:AV) (m q:Nat) (fs:List Factor) (k:Nat) (g:G):Prop where
 h0:g.h.get 0=.cells 2 [[.int .i64 gr,b]] 0 false false
 h1:g.h.get 1=.cells 4 [[.int .i64 0,.nils,.nils,.nils]] 0 false false
 hq:g.h.get q=.cells 4 [[.int .i64 gr,b,fl,S_]] 0 false false
 q2:2<=q/\q<g.nx
 sq:∀i,vid S_=some i->i<q
 hS:∃(Vs:List AV) (l:List (List Int)),Own g 2 S_ 1 (Vs.map fun v=>[v])/\Vs.length=m/\l.length=k/\All2 (fun X v=>Own g (q+1) v 1 (X.map ci)) l (Vs.take k)/\∀(i:Nat) (f:Factor) (X:List Int),fs[i]?=some f->l[i]?=some X->S.bG m f 0 X
structure AskJ (gr:Int) (b fl S_:AV) (m q:Nat) (fs:List Factor) (k:Nat) (t:T) (g:G):Prop where
 st:St t [(11,.hptr q 0 0 0),(2,.hptr 0 0 0 0),(4,.hptr 1 0 0 0),(45,fl)]
 hp:AskH gr b fl S_ m q fs k g
theorem JB {d m q:Nat}{gr:Int}{b fl S_:AV}{fs:List Factor}{Q:QT}{t:T}{g:G}(hb:∀g,gT .slice b g=.val (.int .i64 (m:Int)))(hm:m<=8)(hfl:SlR NoP 0 .nil fs fl)(hfm:fs.length=m)(hok:∀(i:Nat) (f:Factor),fs[i]?=some f->FOk m f)
  (h0:AskJ gr b fl S_ m q fs 0 t g) (h47:tat t 47=.int .i64 0) (h46:tat t 46=.int .i64 (m:Int))
  (fin:∀t g,AskJ gr b fl S_ m q fs m t g->Q (.exit 2) t [] g):wpL (wp C0 d none kP) Q t [] g:=by
 obtain ⟨rows,r1,r2,r3,r4⟩:=hfl.all
 have r1:∀h',af h' 3 fl=some rows:=r1
 simp only[kP,oq]
 refine aS (m:=m) (by omega) (fun k t df g=>df=[]/\AskJ gr b fl S_ m q fs k t g) ⟨rfl,h0⟩ h47 h46 (by decide)
  (by rintro j t df g v s (rfl | rfl | rfl) ⟨a1,⟨b1,b2,b3,b4,-⟩,c1⟩<;>exact ⟨a1,by simp[St,sx,b1,b2,b3,b4],c1⟩) ?_ ?_
 ·rintro k t df g hk ⟨rfl,⟨h11,h2,h4,h45,-⟩,hp⟩ h47 h46
  obtain ⟨f,hf,-,-⟩:=aw (l:=fs) (j:=k) (by omega)
  obtain ⟨row,q1,q2⟩:=r3 k f hf
  obtain ⟨va,ca,wa,rfl,hva,hca,hwa⟩:=mq.1 q2
  have hF:=hok k f hf
  have hlt:k<rows.length:=by omega
  have hry:=r4 (by omega)
  obtain ⟨Vs,l,hS,hVl,hll,hal,hst⟩:=hp.hS
  obtain ⟨q2a,q2b⟩:=hp.q2
  have ne0:∀i,i<g.nx->¬i=g.nx:=fun i hi=>by omega
  refine bS (P:=fun t' df g'=>df=[]/\g'=(g.new (.cells 3 [[.nils,.nils,.nils]] 0 false false)).put g.nx (.cells 3 [[va,ca,wa]] 0 false false)/\St t' ((13,.hptr g.nx 0 0 0)::(12,.int .i64 (k:Int))::zJ fl m q k)) ?_ ?_
  ·simp only[sz,simprocAttr,h45,h47,r1,hlt,q1]
   simp[St,zJ,sx,h11,h2,h4,h45,h47,h46]
  clear h11 h2 h4 h45 h47 h46
  rintro t df g1 ⟨rfl,hg1,⟨h13,h12,h11,h2,h4,h45,h46,h47,-⟩⟩
  have f1:∀i,i<g.nx->g1.h.get i=g.h.get i:=fun i hi=>by rw[hg1];simp[H.get_put,ne0 i hi]
  have n1:g1.nx=g.nx+1:=by rw[hg1];simp
  have k1:g1.h.get g.nx=.cells 3 [[va,ca,wa]] 0 false false:=by rw[hg1];simp[H.get_put]
  clear hg1
  have e0:g1.h.get 0=.cells 2 [[.int .i64 gr,b]] 0 false false:=by rw[f1 0 (by omega),hp.h0]
  have eq:g1.h.get q=.cells 4 [[.int .i64 gr,b,fl,S_]] 0 false false:=by rw[f1 q (by omega),hp.hq]
  have hS1:Own g1 2 S_ 1 (Vs.map fun v=>[v]):=hS.fr (by omega) fun i hi=>f1 i (hS.lt hi).2
  have rS:=hS1.rows
  have hkV:k<(Vs.map fun v=>[v]).length:=by simp;omega
  have hgV:(Vs.map fun v=>[v])[k]?=some [Vs[k]'(by omega)]:=by rw[List.getElem?_map,List.getElem?_eq_getElem (by omega)];rfl
  refine eU (P:=fun t' df g'=>df=[]/\St t' ((13,.hptr g.nx 0 0 0)::(12,.int .i64 (k:Int))::zJ fl m q k)/\g1.nx<g'.nx/\∃R iR,vid R=some iR/\g1.nx<=iR/\iR<g'.nx/\Own g' 2 S_ 1 ((Vs.set k R).map fun v=>[v])/\Own g' (q+1) R 1 ((List.replicate m (0:Int)).map ci)/\∀i,i<g1.nx->vid S_≠some i->g'.h.get i=g1.h.get i) ?_ ?_
  ·simp only[sz,simprocAttr,sf,h11,h2,h12,e0,eq,hb]
   refine mw (b:=q+1) (n:=m) (by unfold bh;omega) (by unfold bh;omega) (by simp;omega) fun R g2 hR n2 f2 vR lg2=>?_
   simp only[sy] at n2 f2 vR lg2
   have hS2:Own g2 2 S_ 1 (Vs.map fun v=>[v]):=hS1.fr (by omega) fun i hi=>by
    have:=hS1.lt hi
    rw[f2 i (by omega)]
   have rS2:=hS2.rows
   simp only[sz,simprocAttr,sf,rS2,hkV]
   refine cq (v:=S_) (sz:=1) (n:=1) (i:=k) (off:=0) (x:=R) (row':=[R]) (hS2.fr (by simp;omega) fun i _=>by simp) hgV (by rw[hR.cell.1];rfl) hR.cell.2 (by rw[hR.cell.1];rfl) fun g4 hu4 n4 f4=>?_
   rw[show (Vs.map fun v=>[v]).set k [R]=(Vs.set k R).map fun v=>[v] from by rw[List.map_set]] at hu4
   have f4':∀i,vid S_≠some i->g4.h.get i=g2.h.get i:=fun i hi=>by rw[f4 i hi];simp
   have n4':g2.nx<=g4.nx:=by rw[n4];simp;omega
   simp only[sy,lg2]
   refine ⟨?_,?_,?_,R,g1.nx+6,vR,by omega,?_,?_,?_,fun i h1 h2=>?_⟩
   ·simp only[List.reverse_cons,List.reverse_nil,List.nil_append,List.cons_append]
    refine bj [false,false,false,false,false,false,true,false,true] [(0,6),(1,6),(2,6)] (by simp[All2,am,aD]) (by decide) ?_
    rintro p hp' x y hx hy
    simp only[List.mem_cons,List.not_mem_nil,or_false] at hp'
    rcases hp' with rfl | rfl | rfl<;>(simp at hx hy;subst hx;subst hy;refine iT rfl rfl rfl rfl ?_ ?_ ?_<;>simp[am,aD,ae]<;>omega)
   ·simp[St,zJ,sx,h13,h12,h11,h2,h4,h45,h46,h47]
   ·omega
   ·omega
   ·exact hu4.fr (by simp) fun i _=>by simp
   ·have hR':Own g2 (q+1) R 1 ((List.replicate m (0:Int)).map ci):=by simpa [ci] using hR
    refine hR'.fr (by simp;omega) fun i hi=>?_
    have:=eW vR hi
    simp only[bumpG_h]
    exact f4' i fun e=>by have:=hS1.lt e;omega
   ·rw[f4' i h2,f2 i (by omega)]
  clear h13 h12 h11 h2 h4 h45 h46 h47
  rintro t df g2 ⟨rfl,⟨h13,h12,h11,h2,h4,h45,h46,h47,-⟩,n2,R,iR,vR,hiR,hiR2,hS2,hR,f2⟩
  have e13:g2.h.get g.nx=.cells 3 [[va,ca,wa]] 0 false false:=by rw[f2 g.nx (by omega) (fun e=>by have:=hp.sq _ e;omega),k1]
  have e11:g2.h.get q=.cells 4 [[.int .i64 gr,b,fl,S_]] 0 false false:=by rw[f2 q (by omega) (fun e=>by have:=hp.sq _ e;omega),eq]
  have lva:=hva.len
  have hvl:=hF.vl
  have hR2:Own g2 2 R 1 ((List.replicate m (0:Int)).map ci):=Own.low hR (by omega)
  have w1:IntKind.wrap .i64 ((f.vars.length:Int) - 1)=(f.vars.length:Int) - 1:=aH (by omega) (by omega)
  have hgV2:((Vs.set k R).map fun v=>[v])[k]?=some [R]:=by rw[List.getElem?_map,List.getElem?_set_self (by omega)];rfl
  simp only[sz,simprocAttr,h13,e13,lva,w1]
  refine Ko (g0:=g2) (fl:=fl) (fl':=fl) (m:=m) (q:=q) (k:=k) (fb:=g.nx) (iR:=iR) (R:=R) (S_:=S_) (b:=b) (gr:=gr) (va:=va) (ca:=ca) (wa:=wa) (f:=f) (rowsS:=(Vs.set k R).map fun v=>[v]) hva hca hF.cl hF.vl hF.cb hF.nd hF.vr e11 e13 hS2 hgV2 vR (fun e=>by have:=hp.sq _ e;omega) ⟨by omega,by omega⟩ ⟨by omega,by omega,by omega⟩
   ⟨by simp[St,zJ,sx,h13,h12,h11,h2,h4,h45,h46,h47,S.ae,List.drop_of_length_le (show f.cards.length<=f.vars.length by rw[hF.cl];exact Nat.le_refl _)],Nat.le_refl _,fun _ _ _=>rfl,List.replicate m 0,hR2,by simp,fun j y hj hy=>?_⟩ (by simp[sx]) ?_
  ·have:=(List.getElem?_eq_some_iff.1 hy).1
   omega
  clear h13 h12 h11 h2 h4 h45 h46 h47
  rintro t g3 ⟨⟨h13,h12,h14,h11,h2,h4,h45,h46,h47,-⟩,n3,f3,X,hX,hXo⟩
  simp only[sx,sy,↓reduceIte]
  have hfin:∀i,i<g.nx->vid S_≠some i->g3.h.get i=g.h.get i:=fun i h1 h2=>by
   rw[f3 i (by omega) (by omega),f2 i (by omega) h2,f1 i h1]
  refine ⟨⟨by simp[St,h11,h2,h4,h45],?_⟩,h47,h46⟩
  have hsl:∀i,i<2\/i=q->vid S_≠some i:=fun i hi e=>by
   have:=hp.sq i e
   have:=(hS.lt e).1
   omega
  refine ⟨by rw[hfin 0 (by omega) (hsl 0 (by omega)),hp.h0],by rw[hfin 1 (by omega) (hsl 1 (by omega)),hp.h1],by rw[hfin q q2b (hsl q (by omega)),hp.hq],⟨q2a,by omega⟩,hp.sq,Vs.set k R,l++[X],hS2.fr n3 fun i hi=>f3 i (hS2.lt hi).2 fun e=>by have:=hp.sq i hi;omega,by simpa using hVl,by simp[hll],?_,?_⟩
  ·have htk:(Vs.set k R).take (k+1)=Vs.take k++[R]:=by
    rw[List.take_add_one,List.take_set_of_le (Nat.le_refl _),List.getElem?_set_self (by omega)]
    rfl
   rw[htk]
   refine (hal.mono fun X' v r=>?_).append ⟨?_,trivial⟩
   ·exact r.fr (by omega) fun i hi=>by
     have:=r.lt hi
     exact hfin i this.2 fun e=>by have:=hp.sq i e;omega
   ·rcases hX with h | ⟨id,ep,lo,p1,p2,rfl,p4⟩
    ·exact .inl h
    ·injection vR with vR
     exact .inr ⟨id,ep,lo,by omega,p2,rfl,p4⟩
  ·intro i f' X' hf' hX'
   by_cases hi:i<l.length
   ·rw[List.getElem?_append_left hi] at hX'
    exact hst i f' X' hf' hX'
   ·have h1:=(List.getElem?_eq_some_iff.1 hX').1
    have:i=k:=by simp at h1;omega
    subst this
    rw[hf] at hf';injection hf' with hf';subst hf'
    rw[List.getElem?_append_right (by omega),hll,Nat.sub_self] at hX'
    simp at hX'
    subst hX'
    exact hXo
 ·rintro t df g ⟨rfl,h⟩
  exact fin t g h
theorem IN (n:Net)(ls:List (List Int)):Snb (HZ n ls) 2:=lB fun y=>eI (m:=2) (gu _) (bc _) (by decide) (by decide)
def qn0:QnM:=(⟨0,[]⟩,[],[])
theorem Gw (P:Nat->Prop)(h:H):Agg qn0 P 0 h (.agg [.int .i64 0,.nils,.nils,.nils]):=⟨_,rfl,qV.2 ⟨.nils,.nils,.nils,rfl,⟨by show 0<9223372036854775808;decide,rfl⟩,⟨by show 0<9223372036854775808;decide,rfl⟩,⟨by show 0<9223372036854775808;decide,rfl⟩⟩⟩
theorem Bi {a b c w:AV}(h:w.cells=[w])(h2:w.isTup=false)(h3:b.cells=[b])(h4:b.isTup=false):dk [.int .i64 0,.nils,.nils,.nils] [((0,2),.agg [a,c]),((2,1),b),((3,1),w)]=some [a,c,b,w]:=by
 have k1:(AV.agg [a,c]).cells=[a,c]:=rfl
 have k2:(AV.agg [a,c]).isTup=false:=rfl
 simp[dk,h,h2,h3,h4,eC,k1,k2]
 rfl
theorem JN {d kk:Nat}{P:Nat->Prop}{g:G}{v w:AV}{n:Net}{ls:List (List Int)}(hd:0<d)(hm:Agg n NoP 0 g.h v)(hw:SlR P kk g.h ls w):∃r,aA C0 d N.aY [v,w] g=.val r/\HZ n ls NoP 0 .nil r:=by
 obtain ⟨b,rows,rfl,e1,hm',hN,r1,r2,r3,r4⟩:=mJ d hm
 obtain ⟨w',e2,hw'⟩:=jM hw d
 obtain ⟨wrows,p1,p2,p3,p4⟩:=(hw' .nil).all
 have p1:∀h',af h' 1 w'=some wrows:=p1
 have hwl:=hw.1
 have wl:=fun g=>(hw' .nil).len g
 rw[tU]
 refine bD xJ (xs:=[.agg [.int .i64 n.grain,b],w']) (by simp only[aG,e1,e2]) (by simp[pp]) (IN n ls) (by decide) hd ?_
 simp only[sz,simprocAttr,pp]
 obtain ⟨g0,hg0⟩:∃g0,g0=(G.empty.new (.cells 2 [[.int .i64 n.grain,b]] 0 false false)).new (.cells 4 [[.int .i64 0,.nils,.nils,.nils]] 0 false false):=⟨_,rfl⟩
 rw[<-hg0]
 have f0:g0.h.get 0=.cells 2 [[.int .i64 n.grain,b]] 0 false false:=by rw[hg0];simp[sx,H.get_put]
 have f1:g0.h.get 1=.cells 4 [[.int .i64 0,.nils,.nils,.nils]] 0 false false:=by rw[hg0];simp[sx]
 have f2:g0.nx=2:=by rw[hg0];simp[sx]
 clear hg0
 simp only[qj]
 obtain ⟨z,ez,fs,⟨hfl,hfs⟩,fl,er,rfl,hfl2,her⟩:=II (d:=d+1) (g:=g0) (Nat.succ_pos d) (hm' g0.h)
 have her:=aX.1 her
 injection her with her
 subst her
 obtain ⟨_,e3,hfl2⟩:=hfl2
 injection e3 with e3;subst e3
 cases hn:S.aQ n with
 | false =>
  have hs:S.aW n ls=50:=by rw[S.aW,hn];rfl
  rw[hn] at ez
  simp only[Bool.false_eq_true,↓reduceIte] at ez
  simp only[sz,simprocAttr,f0,ez,show ¬((50:Int)=0) from by decide,f1]
  refine ⟨fun _=>True,qn0,?_,_,_,rfl,?_,?_⟩
  ·rw[hs];intro h;cases h
  ·exact Gw _ _
  ·rw[hs];exact aX.2 rfl
 | true =>
  have hr:=fJ.1 hn
  have hfl:=hfl hn
  rw[hn] at ez
  simp only[↓reduceIte] at ez
  refine eU (P:=fun t' df g'=>df=[]/\g'=g0/\St t' [(1,w'),(2,.hptr 0 0 0 0),(4,.hptr 1 0 0 0),(6,fl),(7,.int .i64 0)]) ?_ ?_
  ·simp only[sz,simprocAttr,f0,ez]
   simp[St,sx]
  rintro t df g1 ⟨rfl,rfl,h1,h2,h4,h6,h7,-⟩
  obtain ⟨Qf,hQf⟩:∃Qf,Qf=fnQ C0 (d+1) [SR.cell true 4 4,SR.tm 5] (fun v g'=>∃P,HZ n ls P 0 g'.h v):=⟨_,rfl⟩
  rw[<-hQf]
  simp only[sz,simprocAttr,h1,h7,wl,oT]
  refine aS (m:=ls.length) hwl (fun j t df g=>df=[]/\St t [(25,w'),(2,.hptr 0 0 0 0),(4,.hptr 1 0 0 0),(6,fl)]/\g=g1/\∀e∈ls.take j,S.bo n e=true) ⟨rfl,by simp[St,sx,h2,h4,h6],rfl,by simp⟩ (by simp[sx]) (by simp[sx]) (by decide)
   (by rintro j t df g v s (rfl | rfl | rfl) ⟨a1,⟨b1,b2,b3,b4,-⟩,c1,c2⟩<;>exact ⟨a1,by simp[St,sx,b1,b2,b3,b4],c1,c2⟩) ?_ ?_
  ·rintro j t df g hj ⟨rfl,⟨h25,h2,h4,h6,-⟩,rfl,hall⟩ h27 h26
   obtain ⟨e,he,htk,hem⟩:=aw hj
   obtain ⟨row,q1,q2⟩:=p3 j e he
   obtain ⟨z,rfl,hz⟩:=cA.1 q2
   have hlt:j<wrows.length:=by omega
   have hch:=GZ (d:=d+1) (g:=g) (e:=e) (w:=z) (Nat.succ_pos d) (hm' g.h) (hz.tree (h':=g.h) (Nat.le_refl _))
   cases hev:S.bo n e with
   | true =>
    have hs:S.a8 n e=0:=by rw[S.a8,hn,hev];rfl
    rw[hs] at hch
    simp only[sz,simprocAttr,h25,h27,h26,h2,p1,hlt,q1,f0,hch]
    refine ⟨by simp[St,sx,h2,h4,h6,h25],fun y hy=>?_⟩
    rw[htk] at hy
    rcases List.mem_append.1 hy with h | h
    ·exact hall y h
    ·rw[List.mem_singleton.1 h];exact hev
   | false =>
    have hs:S.a8 n e=2:=by rw[S.a8,hn,hev];rfl
    have hs2:S.aW n ls=2:=by
     have:ls.all (S.bo n)=false:=by
      rw[<-Bool.not_eq_true,List.all_eq_true]
      intro h
      rw[h e hem] at hev;cases hev
     rw[S.aW,hn,this];rfl
    rw[hs] at hch
    rw[hQf]
    simp only[sz,simprocAttr,h25,h27,h2,h4,p1,hlt,q1,f0,f1,hch,show ¬((2:Int)=0) from by decide]
    refine ⟨fun _=>True,qn0,?_,_,_,rfl,?_,?_⟩
    ·rw[hs2];intro h;cases h
    ·exact Gw _ _
    ·rw[hs2];exact aX.2 rfl
  ·rintro t df g ⟨rfl,⟨h25,h2,h4,h6,-⟩,rfl,hall⟩
   rw[List.take_length] at hall
   have hs:S.aW n ls=0:=by rw[S.aW,hn,List.all_eq_true.2 hall];rfl
   have hl8:=hr.l2
   have fll:=fun g=>hfl2.len g
   simp only[sx,↓reduceIte]
   unfold pf
   refine eU (P:=fun t' df g'=>df=[]/\∃S_ q,St t' [(2,.hptr 0 0 0 0),(4,.hptr 1 0 0 0),(6,fl),(11,.hptr q 0 0 0)]/\AskH n.grain b fl S_ n.nodes.length q fs 0 g') ?_ ?_
   ·simp only[sz,simprocAttr,sf,h2,h6,f0,fll,hfl]
    refine mw (b:=2) (n:=n.nodes.length) (by unfold bh;omega) (by unfold bh;omega) (by first | (simp;done) | (simp;omega)) fun S_ g2 hS n2 f2' vS lg2=>?_
    simp only[sy] at n2 f2' vS lg2
    have hflc:fl.cells=[fl]/\fl.isTup=false:=by
     have h:=hfl2.2
     unfold SlV at h
     split at h<;>first | exact ⟨rfl,rfl⟩ | exact h.elim
    simp only[sz,simprocAttr,sf,Bi hS.cell.1 hS.cell.2 hflc.1 hflc.2,lg2]
    have n2':g.nx+5=g2.nx:=by omega
    have k0:g2.h.get 0=.cells 2 [[.int .i64 n.grain,b]] 0 false false:=by rw[f2' 0 (by omega),f0]
    have k1:g2.h.get 1=.cells 4 [[.int .i64 0,.nils,.nils,.nils]] 0 false false:=by rw[f2' 1 (by omega),f1]
    refine ⟨?_,S_,g2.nx+1+1,by simp[St,sx,h2,h4,h6],⟨?_,?_,?_,⟨by omega,by simp⟩,fun i hi=>by have:=eW vS hi;omega,List.replicate n.nodes.length .nils,[],?_,by simp,rfl,trivial,fun i f X _ h=>by simp at h⟩⟩
    ·simp only[List.reverse_cons,List.reverse_nil,List.nil_append,List.cons_append,G.new_lg,G.put_lg,setLog_lg]
     refine bj [false,false,false,false,true,false,true,true] [(0,4),(1,4),(0,6),(1,6),(2,6),(3,6),(4,6),(5,6)] (by simp[All2,am,aD]) (by decide) ?_
     rintro p hp' x y hx hy
     simp only[List.mem_cons,List.not_mem_nil,or_false] at hp'
     rcases hp' with rfl | rfl | rfl | rfl | rfl | rfl | rfl | rfl<;>(simp at hx hy;subst hx;subst hy;refine iT rfl rfl rfl rfl ?_ ?_ ?_<;>simp[am,aD,ae]<;>omega)
    ·simp[H.get_put,k0]
    ·simp[H.get_put,k1]
    ·simp[H.get_put]
    ·have hS':Own g2 2 S_ 1 ((List.replicate n.nodes.length AV.nils).map fun v=>[v]):=by simpa using hS
     refine hS'.fr (by simp;omega) fun i hi=>?_
     have:=eW vS hi
     simp[H.get_put,show ¬i=g2.nx+1+1 by omega]
   clear h25 h2 h4 h6
   rintro t df g2 ⟨rfl,S_,q,⟨h2,h4,h6,h11,-⟩,hp⟩
   have hbl:=hN.len
   simp only[sz,simprocAttr,h6,fll,hfl]
   refine JB (m:=n.nodes.length) (q:=q) (gr:=n.grain) (b:=b) (fl:=fl) (S_:=S_) (fs:=fs) hbl hl8 hfl2 hfl (fun i f hf=>?_) ⟨by simp[St,sx,h2,h4,h11],hp⟩ (by simp[sx]) (by simp[sx]) ?_
   ·have hi:=(List.getElem?_eq_some_iff.1 hf).1
    obtain ⟨x,hx,-,-⟩:=aw (l:=n.nodes) (j:=i) (by omega)
    obtain ⟨p,hpp,hf2⟩:=hfs i x hi hx
    rw[hf] at hf2;injection hf2 with hf2;subst hf2
    exact Fi hr hx hpp
   clear h2 h4 h6 h11 hp
   rintro t g3 ⟨⟨h11,h2,h4,h45,-⟩,hp⟩
   obtain ⟨Vs,l,hS,hVl,hll,hal,hst⟩:=hp.hS
   rw[List.take_of_length_le (by omega)] at hal
   rw[hQf]
   have q2:=hp.q2.1
   simp only[sz,simprocAttr,pA,h11,h4,hp.hq,hp.h1]
   have hne:∀i,i≠1->(g3.h.put 1 (.cells 4 [[.int .i64 n.grain,b,fl,S_]] 0 false false)).get i=g3.h.get i:=fun i hi=>by simp[H.get_put,hi]
   refine ⟨fun _=>True,(n,fs,l),fun _=>⟨rfl,hfl,hfs,hll,hst⟩,_,_,rfl,⟨_,rfl,qV.2 ⟨b,fl,S_,rfl,hN.wide (Nat.le_refl 0),hfl2.wide (Nat.le_refl 0),?_⟩⟩,?_⟩
   ·have hS':Own (g3.put 1 (.cells 4 [[.int .i64 n.grain,b,fl,S_]] 0 false false)) 2 S_ 1 (Vs.map fun v=>[v]):=hS.fr (by simp) fun i hi=>by
     have:=(hS.lt hi).1
     simp[H.get_put,show ¬i=1 by omega]
    refine Own.sl (α:=List Int) hS' (by show l.length<_;omega) ?_ fun _ _=>trivial
    have hal2:∀(l:List (List Int)) (Vs:List AV),All2 (fun X v=>Own g3 (q+1) v 1 (X.map ci)) l Vs->(∀X∈l,X.length<9223372036854775808)->All2 (Rp.rp (fun _=>True) 0 (g3.put 1 (.cells 4 [[.int .i64 n.grain,b,fl,S_]] 0 false false)).h) l (Vs.map fun v=>[v]):=by
     intro l
     induction l with
     | nil=>intro Vs h _;cases Vs with
      | nil=>trivial
      | cons v Vs=>exact h.elim
     | cons X l ih=>intro Vs h hX;cases Vs with
      | nil=>exact h.elim
      | cons v Vs =>
       refine ⟨?_,ih Vs h.2 fun Y hY=>hX Y (by simp[hY])⟩
       have ho:Own (g3.put 1 (.cells 4 [[.int .i64 n.grain,b,fl,S_]] 0 false false)) (q+1) v 1 (X.map ci):=h.1.fr (by simp) fun i hi=>by
        have:=(h.1.lt hi).1
        simp[H.get_put,show ¬i=1 by omega]
       obtain ⟨_,e1,hh⟩:=ho.ints (k:=0) (hX X (by simp))
       exact cA.2 ⟨_,e1,hh⟩
    refine hal2 l Vs hal fun X hX=>?_
    obtain ⟨i,hi,he⟩:=List.mem_iff_getElem.1 hX
    have:=(hst i _ X (List.getElem?_eq_getElem (show i<fs.length by omega)) (by rw[List.getElem?_eq_getElem hi,he])).1
    omega
   ·rw[hs];exact aX.2 rfl
theorem Ci {α:Type}{l:List α}{i:Nat}{x y:α}(h1:l[i]?=some x)(h2:l[i]?=some y):x=y:=by rw[h1] at h2;injection h2
structure WtI (y:QnM) (b fl S_ wv va ca wa:AV) (gr wt:Int) (p:Int) (cards pv:List Int) (m k fb i:Nat) (t:T) (g:G):Prop where
 st:St t [(1,wv),(2,.hptr 0 0 0 0),(12,fl),(13,.int .i64 (m:Int)),(14,.int .i64 (k:Int)),(5,.int .i64 wt),(6,.int .i64 (k:Int)),(7,.hptr fb 0 0 0),(20,va),(8,.int .i64 (p - S.an (cards.drop i) (pv.drop i)))]
 h0:g.h.get 0=.cells 4 [[.int .i64 gr,b,fl,S_]] 0 false false
 hf:g.h.get fb=.cells 3 [[va,ca,wa]] 0 false false
 nn:0<=p - S.an (cards.drop i) (pv.drop i)
 nx:1<=g.nx
theorem Et {d m k fb kv kz:Nat}{y:QnM}{b fl S_ wv va ca wa:AV}{gr wt p:Int}{f:Factor}{R vals:List Int}{mm:Nat}{Q:QT}{t:T}{g:G}(hva:SlR NoP kv .nil f.vars va)(hF:FOk mm f)(hR:S.bG mm f 0 R)(hvl:vals.length=mm)
  (hS:∃(srows:List (List AV)) (z:AV),(∀h,af h 1 S_=some srows)/\srows[k]?=some [z]/\k<srows.length/\SlR NoP kz .nil R z) (rv:∀h,af h 1 wv=some (vals.map ci)) (hp:p=S.an f.cards (S.af vals f.vars)) (hin:InC f.cards (S.af vals f.vars)) (hpb:p<=10000000)
  (h0:WtI y b fl S_ wv va ca wa gr wt p f.cards (S.af vals f.vars) m k fb 0 t g) (h22:tat t 22=.int .i64 0) (h21:tat t 21=.int .i64 (f.vars.length:Int))
  (fin:∀t g,WtI y b fl S_ wv va ca wa gr wt p f.cards (S.af vals f.vars) m k fb f.vars.length t g->Q (.exit 2) t [] g):wpL (wp C0 d none ct) Q t [] g:=by
 obtain ⟨srows,z,s1,s2,s3,hz⟩:=hS
 have rva:=fun h=>(hva.tree (h':=h) (Nat.le_refl _)).ints
 have rz:=fun h=>(hz.tree (h':=h) (Nat.le_refl _)).ints
 simp only[ct]
 refine aS (m:=f.vars.length) hva.1 (fun i t df g=>df=[]/\WtI y b fl S_ wv va ca wa gr wt p f.cards (S.af vals f.vars) m k fb i t g) ⟨rfl,h0⟩ h22 h21 (by decide)
  (by rintro j t df g v s (rfl | rfl | rfl) ⟨a1,⟨b1,b2,b3,b4,b5,b6,b7,b8,b9,b10,-⟩,c1,c2,c3,c4⟩<;>exact ⟨a1,by simp[St,sx,b1,b2,b3,b4,b5,b6,b7,b8,b9,b10],c1,c2,c3,c4⟩) ?_ ?_
 ·rintro i t df g hi ⟨rfl,⟨h1,h2,h12,h13,h14,h5,h6,h7,h20,h8,-⟩,e0,ef,hnn,hnx⟩ h22 h21
  obtain ⟨u,hu,-,hum⟩:=aw hi
  obtain ⟨hu0,hum⟩:=hF.vr u hum
  obtain ⟨un,rfl⟩:=Int.eq_ofNat_of_zero_le hu0
  have hcl:=hF.cl
  have hdr:f.cards.drop i=f.cards[i]::f.cards.drop (i+1):=List.drop_eq_getElem_cons (by omega)
  have hval:vals[un]?=some vals[un]:=List.getElem?_eq_getElem (by omega)
  have hpvi:(S.af vals f.vars)[i]?=some vals[un]:=by simp[S.af,hu,hval]
  have hdp:(S.af vals f.vars).drop i=vals[un]::(S.af vals f.vars).drop (i+1):=by
   have hl:i<(S.af vals f.vars).length:=by rw[kw];exact hi
   rw[List.drop_eq_getElem_cons hl]
   rw[List.getElem?_eq_getElem hl] at hpvi
   injection hpvi with hpvi
   rw[hpvi]
  have hv0:0<=vals[un]:=by
   obtain ⟨v',h1,h2,-⟩:=hin.get (i:=i) (c:=f.cards[i]) (List.getElem?_eq_getElem (by omega))
   rw[Ci hpvi h1];exact h2
  generalize vals[un]=x at hval hpvi hdp hv0
  have hRu:=hR.2 i (un:Int) (Nat.zero_le _) hu
  rw[Int.toNat_natCast] at hRu
  have hRl:=(List.getElem?_eq_some_iff.1 hRu).1
  have u1:i<(f.vars.map ci).length:=by simpa using hi
  have u2:(f.vars.map ci)[i]?=some (ci (un:Int)):=by rw[List.getElem?_map,hu];rfl
  have u3:un<(vals.map ci).length:=by simp;omega
  have u4:(vals.map ci)[un]?=some (ci x):=by rw[List.getElem?_map,hval];rfl
  have u5:un<(R.map ci).length:=by simpa using hRl
  have u6:(R.map ci)[un]?=some (ci (S.ae (f.cards.drop (i+1)))):=by rw[List.getElem?_map,hRu];rfl
  have hidx:S.an (f.cards.drop i) ((S.af vals f.vars).drop i)=x*S.ae (f.cards.drop (i+1))+S.an (f.cards.drop (i+1)) ((S.af vals f.vars).drop (i+1)):=by rw[hdr,hdp,S.an]
  have hb1:=dH (cards:=f.cards.drop (i+1)) (vals:=(S.af vals f.vars).drop (i+1)) (fun c hc=>hF.cb c (List.mem_of_mem_drop hc)) (hin.drop (i+1))
  have hb2:=dH (cards:=f.cards.drop i) (vals:=(S.af vals f.vars).drop i) (fun c hc=>hF.cb c (List.mem_of_mem_drop hc)) (hin.drop i)
  have hpp:=eT (cs:=f.cards.drop (i+1)) fun c hc=>(hF.cb c (List.mem_of_mem_drop hc)).1
  have hxs:0<=x*S.ae (f.cards.drop (i+1)):=Int.mul_nonneg hv0 (by omega)
  have w1:IntKind.wrap .i64 (x*S.ae (f.cards.drop (i+1)))=x*S.ae (f.cards.drop (i+1)):=aH (by omega) (by omega)
  have w2:IntKind.wrap .i64 (p - S.an (f.cards.drop i) ((S.af vals f.vars).drop i)+x*S.ae (f.cards.drop (i+1)))=p - S.an (f.cards.drop (i+1)) ((S.af vals f.vars).drop (i+1)):=by
   rw[aH (by omega) (by omega)];omega
  simp only[sz,simprocAttr,h1,h2,h6,h8,h20,h22,h21,e0,rva,u1,u2,rv,u3,u4,s1,s2,s3,rz,u5,u6,ci,w1,w2]
  refine ⟨by simp[St,sx,h1,h2,h12,h13,h14,h5,h6,h7,h20],e0,ef,by omega,by first | exact hnx | (simp;done) | (simp;omega)⟩
 ·rintro t df g ⟨rfl,h⟩
  exact fin t g h
structure WtJ (n:Net) (vals:List Int) (b fl S_ wv:AV) (k:Nat) (t:T) (g:G):Prop where
 st:St t [(1,wv),(2,.hptr 0 0 0 0),(12,fl),(5,.int .i64 (S.ae ((List.range k).map (S.am n vals))))]
 h0:g.h.get 0=.cells 4 [[.int .i64 n.grain,b,fl,S_]] 0 false false
 nx:1<=g.nx
theorem Eo {d kk ky:Nat}{P:Nat->Prop}{g:G}{v w:AV}{n:Net}{y:QnM}{vals:List Int}(hd:0<d)(hr:NR n)(hm:Agg y NoP ky g.h v)(hq:QnOk n y)(hv:SlR P kk g.h vals w)(hc:InC (S.aa n) vals) :
  aA C0 d N.aX [v,w] g=.val (.int .i64 (S.aJ n vals)):=by
 have e0:=gU d hm
 obtain ⟨cs,rfl,hcs⟩:=hm
 obtain ⟨b,fl,S_,rfl,hN,hfl,hS⟩:=qV.1 hcs
 have hfl:SlR NoP ky .nil y.2.1 fl:=hfl.tree (Nat.le_refl _)
 have hS:SlR NoP ky .nil y.2.2 S_:=hS.tree (Nat.le_refl _)
 obtain ⟨w',e2,hw'⟩:=jM hv d
 have hgr:y.1.grain=n.grain:=by rw[hq.net]
 obtain ⟨frows,f1,f2,f3,f4⟩:=hfl.all
 have f1:∀h',af h' 3 fl=some frows:=f1
 obtain ⟨srows,s1,s2,s3,s4⟩:=Bw hS
 have rv:=fun h=>(hw' h).ints
 have hvl:=hc.len
 rw[aM] at hvl
 have hl8:=hr.l2
 have hfll:=hq.fl
 rw[jW]
 refine np l9 (xs:=[.agg [.int .i64 y.1.grain,b,fl,S_],w']) (by simp only[aG,e0,e2]) (by simp[cY]) hd ?_
 rw[hgr]
 have ll:=hfl.len
 simp only[sz,simprocAttr,cY,fd,ll,hfll]
 simp only[d7,dX]
 refine aS (m:=n.nodes.length) (by omega) (fun k t df g=>df=[]/\WtJ n vals b fl S_ w' k t g) ⟨rfl,by simp[St,sx,S.ae],by simp[sx],by simp⟩ (by simp[sx]) (by simp[sx]) (by decide)
  (by rintro j t df g v s (rfl | rfl | rfl) ⟨a1,⟨b1,b2,b3,b4,-⟩,c1,c2⟩<;>exact ⟨a1,by simp[St,sx,b1,b2,b3,b4],c1,c2⟩) ?_ ?_
 ·rintro k t df g hk ⟨rfl,⟨h1,h2,h12,h5,-⟩,g0,hnx⟩ h14 h13
  obtain ⟨x,hx,-,-⟩:=aw hk
  obtain ⟨p,hp,hf⟩:=hq.fs k x (by omega) hx
  obtain ⟨row,q1,q2⟩:=f3 k _ hf
  obtain ⟨va,ca,wa,rfl,hva,hca,hwa⟩:=mq.1 q2
  have hF:=Fi hr hx hp
  obtain ⟨pn,i1,i2,i3⟩:=JT hr hc hx p
  have hlt:k<frows.length:=by omega
  have hry:=f4 (by omega)
  obtain ⟨R,hR,-,-⟩:=aw (l:=y.2.2) (j:=k) (by rw[hq.sl];exact hk)
  obtain ⟨z,z1,z2,z3⟩:=s3 k R hR
  have hinp:InC (S.aP n k x p).cards (S.af vals (S.aP n k x p).vars):=fR hc fun u hu=>by rw[aM];exact u0 hr hx p u hu
  have hib:=dH hF.cb hinp
  have hpb:=bX (l:=(S.aP n k x p).cards) hF.cb
  have hfv:=hF.vl
  have hp4:=dG (a:=(S.aP n k x p).cards.length) (b:=9) (by
   have h1:=nI (hr.places x (List.mem_of_getElem? hx)) (by omega)
   have h3:=pM x.parents p (k:Int) hp
   show (S.af _ _).length<=9
   rw[kw];omega)
  have h48:(4:Int) ^ 9=262144:=by decide
  have ei:S.an (S.aP n k x p).cards (S.af vals (S.aP n k x p).vars)=(pn:Int):=i1
  have lva:=hva.len
  have rwa:=fun h=>(hwa.tree (h':=h) (Nat.le_refl _)).ints
  refine bS (P:=fun t' df g'=>df=[]/\g'=(g.new (.cells 3 [[.nils,.nils,.nils]] 0 false false)).put g.nx (.cells 3 [[va,ca,wa]] 0 false false)/\St t' [(1,w'),(2,.hptr 0 0 0 0),(12,fl),(13,.int .i64 (n.nodes.length:Int)),(14,.int .i64 (k:Int)),(5,.int .i64 (S.ae ((List.range k).map (S.am n vals)))),(6,.int .i64 (k:Int)),(7,.hptr g.nx 0 0 0)]) ?_ ?_
  ·simp only[sz,simprocAttr,h14,h12,f1,hlt,q1]
   simp[St,sx,h1,h2,h12,h13,h14,h5]
  clear h1 h2 h12 h5 h14 h13
  rintro t df g1 ⟨rfl,hg1,⟨h1,h2,h12,h13,h14,h5,h6,h7,-⟩⟩
  have k0:g1.h.get 0=.cells 4 [[.int .i64 n.grain,b,fl,S_]] 0 false false:=by rw[hg1];simp[H.get_put,show ¬0=g.nx by omega,g0]
  have k1:g1.h.get g.nx=.cells 3 [[va,ca,wa]] 0 false false:=by rw[hg1];simp[H.get_put]
  have kn:g1.nx=g.nx+1:=by rw[hg1];simp
  simp only[sz,simprocAttr,h7,k1,lva]
  refine Et (y:=y) (b:=b) (fl:=fl) (S_:=S_) (wv:=w') (va:=va) (ca:=ca) (wa:=wa) (gr:=n.grain) (wt:=S.ae ((List.range k).map (S.am n vals))) (p:=(pn:Int)) (f:=S.aP n k x p) (R:=R) (vals:=vals) (mm:=n.nodes.length) (m:=n.nodes.length) (k:=k) (fb:=g.nx) hva hF (hq.st k _ R hf hR) hvl ⟨srows,z,s1,z1,z2,z3⟩ rv ei.symm hinp (by omega)
   ⟨by simp[St,sx,h1,h2,h12,h13,h14,h5,h6,h7,ei],by simpa using k0,by simpa using k1,by simp[ei],by omega⟩ (by simp[sx]) (by simp[sx]) ?_
  clear h1 h2 h12 h13 h14 h5 h6 h7
  rintro t g2 ⟨⟨h1,h2,h12,h13,h14,h5,h6,h7,h20,h8,-⟩,k0,k1,-,hnx2⟩
  have hnil:S.an ((S.aP n k x p).cards.drop (S.aP n k x p).vars.length) ((S.af vals (S.aP n k x p).vars).drop (S.aP n k x p).vars.length)=0:=by
   rw[List.drop_of_length_le (by rw[hF.cl];exact Nat.le_refl _)];rfl
  rw[hnil,Int.sub_zero] at h8
  have u1:pn<((S.aP n k x p).w.map ci).length:=by
   rw[List.length_map]
   exact (List.getElem?_eq_some_iff.1 i3).1
  have u2:((S.aP n k x p).w.map ci)[pn]?=some (ci (S.am n vals k)):=by rw[List.getElem?_map];exact congrArg (Option.map ci) i3
  have wb:=pZ hr hc (j:=k+1) (by omega)
  have ws:=A6 n vals k
  have w1:IntKind.wrap .i64 (S.ae ((List.range k).map (S.am n vals))*S.am n vals k)=S.ae ((List.range (k+1)).map (S.am n vals)):=by rw[<-ws,aH (by omega) (by omega)]
  simp only[sz,simprocAttr,ew,h5,h7,k1,h8,rwa,u1,u2,ci,w1]
  exact ⟨⟨by simp[St,sx,h1,h2,h12],k0,hnx2⟩,h14,h13⟩
 ·rintro t df g ⟨rfl,⟨h1,h2,h12,h5,-⟩,g0,hnx⟩
  simp only[sz,simprocAttr,dZ,h5]
  rfl
def S.bJ (vals e:List Int)(i:Nat):Bool:=decide (e[i]?.getD 0 = -1) || decide (e[i]?.getD 0=vals[i]?.getD 0)
def S.jm (vals e:List Int):Bool:=(List.range e.length).all (S.bJ vals e)
theorem Bp {d k k2:Nat}{g:G}{P P2:Nat->Prop}{v w:AV}{vals e:List Int}(hd:0<d)(hv:SlR P k g.h vals v)(hw:SlR P2 k2 g.h e w)(hl:e.length<=vals.length) :
  aA C0 d N.aU [v,w] g=.val (.bool (S.jm vals e)):=by
 obtain ⟨v',e1,r1⟩:=jM hv d
 obtain ⟨w',e2,r2⟩:=jM hw d
 have ra:∀h',af h' 1 v'=some (vals.map ci):=fun h'=>(r1 h').ints
 have rb:∀h',af h' 1 w'=some (e.map ci):=fun h'=>(r2 h').ints
 have n2:=fun g=>(r2 .nil).len g
 rw[qB]
 refine mP sg (xs:=[v',w']) (by simp only[aG,e1,e2]) (by simp[jg]) hd ?_
 simp only[sz,simprocAttr,jg,kH,n2]
 refine aS (m:=e.length) hw.1 (fun j t df g=>df=[]/\St t [(0,v'),(8,w'),(5,.bool true)]/\(List.range j).all (S.bJ vals e)=true) ⟨rfl,by simp[St,sx],rfl⟩ (by simp[sx]) (by simp[sx]) (by decide) (by rintro j t df g v s (rfl | rfl | rfl)<;>simp[St,sx]) ?_ ?_
 ·rintro j t df g hj ⟨rfl,⟨h0,h8,h5,-⟩,hA⟩ h10 h9
  obtain ⟨x,hx,-,-⟩:=aw hj
  obtain ⟨z,hz,-,-⟩:=aw (l:=vals) (j:=j) (by omega)
  have q1:j<(e.map ci).length:=by simpa using hj
  have q2:j<(vals.map ci).length:=by rw[List.length_map];omega
  have q3:(e.map ci)[j]?=some (ci x):=by rw[List.getElem?_map,hx];rfl
  have q4:(vals.map ci)[j]?=some (ci z):=by rw[List.getElem?_map,hz];rfl
  have hat:S.bJ vals e j=(decide (x = -1) || decide (x=z)):=by simp[S.bJ,hx,hz]
  by_cases c1:x = -1
  ·subst c1
   simp only[sz,simprocAttr,h10,h9,h8,rb,q1,q3,ci]
   refine ⟨by simp[St,sx,h0,h8,h5],?_⟩
   rw[jO,hA,hat];simp
  ·by_cases c2:x=z
   ·subst c2
    simp only[sz,simprocAttr,h10,h9,h8,h0,ra,rb,q1,q2,q3,q4,ci,c1]
    refine ⟨by simp[St,sx,h0,h8,h5],?_⟩
    rw[jO,hA,hat];simp
   ·have:S.bJ vals e j=false:=by rw[hat];simp[c1,c2]
    have hf:S.jm vals e=false:=by rw[S.jm,tu hj this]
    simp only[sz,simprocAttr,h10,h8,h0,ra,rb,q1,q2,q3,q4,ci,c1,c2,fF,hf]
 ·rintro t df g ⟨rfl,⟨h0,h8,h5,-⟩,hA⟩
  simp only[sz,simprocAttr,fF,h5]
  rw[S.jm,hA]
theorem J4 {α:Type} [Rp α]{P:Nat->Prop}{k:Nat}{h:H}{l:List α}{w:AV}(hw:SlR P k h l w)(g:G):Gt w g=.upd (.hptr g.nx 0 0 0) (g.new (.cells 1 [[w]] 0 false false)):=by
 rw[AL _ _ hw.cell.2,hw.cell.1];rfl
def GJ {α:Type} [Rp α](x:α)(sz:Nat):VS:=fun P k h v=>(∃id cs,v=.hptr id 0 0 0/\P id/\h.get id=.cells sz [cs] 0 false false/\Rp.rp P k h x cs)\/∃t cs,v=.tptr t sz [cs] 0 0/\t<=k/\Rp.rp NoP k .nil x cs
theorem zc {α:Type} [Rp α]{x:α}{sz:Nat}{P:Nat->Prop}{k:Nat}{h:H}{v:AV}{n:Nat}(d:Nat)(r:GJ x sz P k h v)(hn:Rp.dp α<=n)(hd:Rp.dp α<=20:=by decide):∃v',Hx.snap h d (n+1) v=some v'/\GJ x sz NoP (max k d) .nil v':=by
 rcases r with ⟨id,cs,rfl,-,hg,r⟩ | ⟨t,cs,rfl,ht,r⟩
 ·obtain ⟨cs',e,r'⟩:=Rp.snap (n:=n) d r hn (by show _<=24;omega)
  obtain ⟨m,e2,l2⟩:=Rp.tag (n:=ay) r' (by show _<=24;omega)
  refine ⟨.tptr (Nat.max d (Nat.max m 0)) sz [cs'] 0 0,?_,.inr ⟨_,cs',rfl,?_,r'⟩⟩
  ·simp only[Hx.snap,hg,show Nat.beq 0 0=true from rfl,aG,e,eM,fS,e2]
  ·show max d (max m 0)<=max k d
   omega
 ·exact ⟨.tptr t sz [cs] 0 0,rfl,.inr ⟨t,cs,rfl,by omega,Rp.mono r (fun i hi=>hi.elim) (by omega)⟩⟩
theorem C_ {α:Type} [Rp α]{x:α}{sz:Nat}{k:Nat}{h:H}{v:AV}{n:Nat}(r:GJ x sz NoP k h v):∃m,dN (n+1) v=some m/\m<=k:=by
 rcases r with ⟨id,cs,rfl,hP,-⟩ | ⟨t,cs,rfl,ht,r⟩
 ·exact hP.elim
 ·exact ⟨t,rfl,ht⟩
def MtV (y:QnM)(e:List Int):VS:=fun P k h v=>∃p q,v=.clo N.af [] [p,q]/\GJ y 4 P k h p/\GJ e 1 P k h q
theorem Kc (y:QnM)(e:List Int):Snb (MtV y e) 2:=by
 refine ⟨fun {P k h v n} d r hn=>?_,fun {k h v n} r hn=>?_⟩
 ·obtain ⟨p,q,rfl,r1,r2⟩:=r
  obtain ⟨n,rfl⟩:∃q,n=q+2:=⟨n - 2,by omega⟩
  obtain ⟨p',e1,r1'⟩:=zc (n:=n) d r1 (Nat.le_trans (show Rp.dp QnM<=20 by decide) (by omega))
  obtain ⟨q',e2,r2'⟩:=zc (n:=n) d r2 (Nat.le_trans (show Rp.dp (List Int)<=20 by decide) (by omega))
  refine ⟨.clo N.af [] [p',q'],?_,p',q',rfl,r1',r2'⟩
  simp only[Hx.snap,aG] at e1 e2 ⊢
  rw[e1,e2]
 ·obtain ⟨p,q,rfl,r1,r2⟩:=r
  obtain ⟨n,rfl⟩:∃q,n=q+2:=⟨n - 2,by omega⟩
  obtain ⟨m1,e1,l1⟩:=C_ (n:=n) r1
  obtain ⟨m2,e2,l2⟩:=C_ (n:=n) r2
  refine ⟨Nat.max m1 (Nat.max m2 0),?_,by show max m1 (max m2 0)<=k;omega⟩
  show fS (dN (n+1)) [p,q]=_
  simp only[fS,e1,e2]
theorem sU {d kk:Nat}{g:G}{v w:AV}{y:QnM}{e:List Int}(hd:0<d)(hm:Agg y NoP 0 g.h v)(hw:SlR NoP kk g.h e w)(hk:kk<d:=by omega) :
  ∃cs z t1 t2,aA C0 d N.au [v,w] g=.val (.clo N.af [] [.tptr t1 4 [cs] 0 0,.tptr t2 1 [[z]] 0 0])/\Rp.rp NoP kk .nil y cs/\SlR NoP kk .nil e z:=by
 have e0:=gU d hm
 obtain ⟨cs,rfl,hc⟩:=hm
 obtain ⟨a,b,c,rfl,h1,h2,h3⟩:=qV.1 hc
 have key:∃r,aA C0 d N.au [.agg [.int .i64 y.1.grain,a,b,c],w] g=.val r/\MtV y e NoP kk .nil r:=by
  rw[je]
  refine bD jT (xs:=[.agg [.int .i64 y.1.grain,a,b,c],w]) (by simp only[aG,e0,tD d hw]) (by simp[cC]) (Kc y e) (by decide) hk ?_
  simp only[sz,simprocAttr,cC,dS,J4 hw]
  refine ⟨fun _=>True,_,_,rfl,.inl ⟨0,_,rfl,trivial,by simp[sx,H.get_put],Rp.tree hc (Nat.zero_le _)⟩,.inl ⟨1,[w],rfl,trivial,by simp[sx],?_⟩⟩
  exact ⟨w,rfl,hw.wide (Nat.le_refl _)⟩
 obtain ⟨r,hr,p,q,rfl,r1,r2⟩:=key
 rcases r1 with ⟨id,cs,rfl,hP,-⟩ | ⟨t,cs,rfl,ht,r1⟩
 ·exact hP.elim
 rcases r2 with ⟨id,cs,rfl,hP,-⟩ | ⟨t2,cs2,rfl,ht2,r2⟩
 ·exact hP.elim
 obtain ⟨z,rfl,hz⟩:=cA.1 r2
 exact ⟨cs,z,t,t2,hr,r1,hz⟩
theorem Hh {cs vs:List Int}(h:InC cs vs)(hc:∀c∈cs,1<=c){i:Nat}{x c:Int}(hi:vs[i]?=some x)(hci:cs[i]?=some c)(hx:x≠c - 1):InC cs (vs.take i++(x+1)::List.replicate (vs.length - (i+1)) 0):=by
 have hil:=(List.getElem?_eq_some_iff.1 hi).1
 have hl:=h.len
 refine yv (by simp;omega) fun j c' v hj hv=>?_
 obtain ⟨v',h1,h2,h3⟩:=h.get hj
 have hcp:=hc c' (List.mem_of_getElem? hj)
 by_cases h4:j<i
 ·rw[List.getElem?_append_left (by simp;omega),List.getElem?_take_of_lt h4] at hv
  rw[h1] at hv;injection hv with hv;omega
 ·rw[List.getElem?_append_right (by simp;omega)] at hv
  rw[List.length_take,Nat.min_eq_left (by omega)] at hv
  by_cases h5:j=i
  ·subst h5
   rw[Nat.sub_self] at hv
   simp at hv
   rw[hi] at h1;injection h1 with h1
   rw[hci] at hj;injection hj with hj
   omega
  ·obtain ⟨m,hm⟩:∃m,j - i=m+1:=⟨j - i - 1,by omega⟩
   rw[hm,List.getElem?_cons_succ] at hv
   have:=List.mem_of_getElem? hv
   rw[List.mem_replicate] at this
   omega
theorem Fc {cs:List Int}(hc:∀c∈cs,1<=c):InC cs (List.replicate cs.length 0) :=
 yv (by simp) fun j c v hj hv=>by
  have:=List.mem_of_getElem? hv
  rw[List.mem_replicate] at this
  have:=hc c (List.mem_of_getElem? hj)
  omega
theorem x9 {vs:List Int}{m:Nat}(h:m<vs.length):(vs.take (m+1)++List.replicate (vs.length - (m+1)) 0).set m 0=vs.take m++List.replicate (vs.length - m) 0:=by
 rw[List.take_succ_eq_append_getElem h,List.append_assoc,List.set_append_right _ _ (by simp;omega),List.length_take,Nat.min_eq_left (by omega),Nat.sub_self]
 rw[show vs.length - m=(vs.length - (m+1))+1 by omega,List.replicate_succ]
 rfl
theorem xF {vs:List Int}{m:Nat}(h:m<vs.length)(y:Int):(vs.take (m+1)++List.replicate (vs.length - (m+1)) 0).set m y=vs.take m++y::List.replicate (vs.length - (m+1)) 0:=by
 rw[List.take_succ_eq_append_getElem h,List.append_assoc,List.set_append_right _ _ (by simp;omega),List.length_take,Nat.min_eq_left (by omega),Nat.sub_self]
 rfl
structure OdoJ (n:Net) (vs:List Int) (L:List (Nat×AV)) (u:AV) (g0:G) (m:Nat) (t:T) (g:G):Prop where
 st:tat t 6=.int .i64 ((m:Int) - 1)
 ss:St t L
 ow:Own g g0.nx u 1 ((vs.take m++List.replicate (vs.length - m) 0).map ci)
 mx:∀(j:Nat) (c:Int),m<=j->(S.aa n)[j]?=some c->vs[j]?.getD 0=c - 1
def LM (id:Nat)(gr:Int)(b fl S_ w u:AV)(k t1 t2:Nat):List (Nat×AV):=[(0,.yld id),(1,.tptr t1 4 [[.int .i64 gr,b,fl,S_]] 0 0),(2,.tptr t2 1 [[w]] 0 0),(4,u),(5,.int .i64 (k:Int))]
theorem Ec {d id k m t1 t2 ky:Nat}{n:Net}{b fl S_ w u:AV}{vs:List Int}{Q:QT}{t:T}{g g0:G}(hr:NR n)(hN:SlR NoP ky .nil n.nodes b)(hc:InC (S.aa n) vs)(hm:m<=n.nodes.length)
  (h0:OdoJ n vs (LM id n.grain b fl S_ w u k t1 t2) u g0 m t g)
  (fin:∀m' t g',m'<=n.nodes.length->OdoJ n vs (LM id n.grain b fl S_ w u k t1 t2) u g0 m' t g'->g.nx<=g'.nx->(∀i,vid u≠some i->g'.h.get i=g.h.get i)->(m'=0\/∃x c,vs[m' - 1]?=some x/\(S.aa n)[m' - 1]?=some c/\x≠c - 1/\0<m')->Q (.exit 2) t [] g') :
  wpL (wp C0 d none a_) Q t [] g:=by
 obtain ⟨rows,r1,r2,r3,r4⟩:=hN.all
 have r1:∀h',af h' 3 b=some rows:=r1
 have hvl:=hc.len
 rw[aM] at hvl
 have hl8:=hr.l2
 refine nH (fun m t df g'=>df=[]/\m<=n.nodes.length/\OdoJ n vs (LM id n.grain b fl S_ w u k t1 t2) u g0 m t g'/\g.nx<=g'.nx/\∀i,vid u≠some i->g'.h.get i=g.h.get i) m ⟨rfl,hm,h0,Nat.le_refl _,fun _ _=>rfl⟩ ?_
 rintro m t df g1 ⟨rfl,hm,⟨h6,⟨h0,h1,h2,h4,h5,-⟩,how,hmx⟩,hnx,hfr⟩
 simp only[a_]
 cases m with
 | zero =>
  have c1:¬((0:Int)<=((0:Nat):Int) - 1):=by omega
  simp only[sz,simprocAttr,h6,c1]
  refine fin 0 _ _ (Nat.zero_le _) ⟨?_,?_,?_,hmx⟩ ?_ ?_ (.inl rfl)
  ·simp[sx,h6]
  ·simp[St,LM,sx,h0,h1,h2,h4,h5]
  ·exact how
  ·exact hnx
  ·exact hfr
 | succ m =>
  have c1:(0:Int)<=((m+1:Nat):Int) - 1:=by omega
  have e1:((m+1:Nat):Int) - 1=(m:Int):=by omega
  rw[e1] at c1 h6
  obtain ⟨x,hx,-,-⟩:=aw (l:=n.nodes) (j:=m) (by omega)
  obtain ⟨row,q1,q2⟩:=r3 m x hx
  obtain ⟨pa,ra,rfl,-,-⟩:=eN.1 q2
  have hlt:m<rows.length:=by omega
  have hry:=r4 (by omega)
  have hci:(S.aa n)[m]?=some x.card:=by simp[S.aa,hx]
  obtain ⟨v,hv,hv0,hv1⟩:=hc.get hci
  have hcx:=hr.card x (List.mem_of_getElem? hx)
  have u1:m<((vs.take (m+1)++List.replicate (vs.length - (m+1)) 0).map ci).length:=by simp;omega
  have u2:((vs.take (m+1)++List.replicate (vs.length - (m+1)) 0).map ci)[m]?=some (ci v):=by
   rw[List.getElem?_map,List.getElem?_append_left (by simp;omega),List.getElem?_take_of_lt (by omega),hv];rfl
  have ru:=how.rows
  have w1:IntKind.wrap .i64 (x.card - 1)=x.card - 1:=aH (by omega) (by omega)
  by_cases c2:v=x.card - 1
  ·simp only[sz,simprocAttr,h6,h1,h4,c1,ru,u1,u2,r1,hlt,q1,hry,rE,iC,ci,w1,c2]
   refine cq (v:=u) (sz:=1) (n:=1) (i:=m) (off:=0) (x:=.int .i64 0) (row':=ci 0) how u2 rfl rfl rfl fun g4 hu4 n4 f4=>?_
   rw[<-List.map_set,x9 (by omega)] at hu4
   have w2:IntKind.wrap .i64 ((m:Int) - 1)=(m:Int) - 1:=aH (by omega) (by omega)
   simp only[sz,simprocAttr,h6,w2]
   refine ⟨m,by omega,by omega,⟨by simp[sx],by simp[St,LM,sx,h0,h1,h2,h4,h5],hu4,fun j c hj hc'=>?_⟩,by omega,fun i hi=>by rw[f4 i hi,hfr i hi]⟩
   by_cases e:j=m
   ·subst e
    rw[hci] at hc';injection hc' with hc'
    rw[hv,Option.getD_some];omega
   ·exact hmx j c (by omega) hc'
  ·simp only[sz,simprocAttr,h6,h1,h4,c1,ru,u1,u2,r1,hlt,q1,hry,rE,iC,ci,w1,c2]
   refine fin (m+1) _ _ hm ⟨?_,?_,?_,hmx⟩ ?_ ?_ (.inr ⟨v,x.card,hv,hci,c2,by omega⟩)
   ·simp[sx,h6]
   ·simp[St,LM,sx,h0,h1,h2,h4,h5]
   ·exact how
   ·exact hnx
   ·exact hfr
theorem J2 {a b u:AV}(ha:a.cells=[a]/\a.isTup=false)(hb:b.cells=[b]/\b.isTup=false)(hu:u.cells=[u]/\u.isTup=false):dk [.int .i64 0,.int .i64 0,.nils] [((0,1),a),((1,1),b),((2,1),u)]=some [a,b,u]:=by
 simp[dk,ha,hb,hu,eC]
 rfl
theorem EE {d id t1 t2 ky ke:Nat}{n:Net}{y:QnM}{e:List Int}{b fl S_ w:AV}{g0:G}{K:AV->G->Prop}(hd:0<d)(hr:NR n)(hq:QnOk n y)(hcs:Rp.rp NoP ky .nil y [.int .i64 n.grain,b,fl,S_])(hw:SlR NoP ke .nil e w)(hel:e.length<=n.nodes.length)
  (J:Nat->H->Prop) (E:G->Prop) (hJ:∀j h h',(∀i,i<g0.nx->h'.get i=h.get i)->J j h->J j h')
  (skip:∀(j:Nat) (h:H),j<S.aD n->S.jm (S.aw (S.aa n) j) e=false->J j h->J (j+1) h)
  (step:∀(j:Nat) (u:AV) (g:G) (K':AV->G->Prop) (D:ADf->Prop),j<S.aD n->S.jm (S.aw (S.aa n) j) e=true->g0.nx<=g.nx->J j g.h->SlR (fun i=>g0.nx<=i/\i<g.nx) 0 g.h (S.aw (S.aa n) j) u ->
   (∀g',J (j+1) g'.h->g.nx<=g'.nx->(∀i,g0.nx<=i->i<g.nx->g'.h.get i=g.h.get i)->K' (.bool true) g')->(∀g',E g'->K' (.bool false) g')->(cj (I C0) d id [.agg [.int .i64 (j:Int),.int .i64 (S.aJ n (S.aw (S.aa n) j)),u]] g).sat K' g D)
  (h0:J 0 g0.h) (fin:∀g',J (S.aD n) g'.h->g0.nx<=g'.nx->K (.tup []) g') (finE:∀g',E g'->K (.tup []) g') :
  wp C0 d none aC.code (fnQ C0 d aC.res K) (bY 0 [.yld id,.tptr t1 4 [[.int .i64 n.grain,b,fl,S_]] 0 0,.tptr t2 1 [[w]] 0 0] .nil) [] g0:=by
 obtain ⟨b',fl',S',e1,hN,hfl,hS⟩:=qV.1 hcs
 injection e1 with e1 e2
 injection e2 with e2 e3
 injection e3 with e3 e4
 injection e4 with e4 e5
 subst e2;subst e3;subst e4
 have hN:SlR NoP ky .nil n.nodes b:=by rw[<-hq.net];exact hN
 have hl8:=hr.l2
 have hl1:=hr.l1
 obtain ⟨W1,W2,W3⟩:=hr.wl
 have hcs1:=fun c hc=>(hr.cs c hc).1
 have nl:=hN.len
 have hcl:=aM n
 obtain ⟨Qf,hQf⟩:∃Qf,Qf=fnQ C0 d aC.res K:=⟨_,rfl⟩
 rw[<-hQf]
 simp only[sz,simprocAttr,aC,rE,iC,nl]
 refine q8 (b:=g0.nx) (n:=n.nodes.length) (by unfold bh;omega) (by unfold bh;omega) (Nat.le_refl _) fun u g1 hu n1 fr1 v1=>?_
 simp only[sz,simprocAttr]
 have hul:∀(g:G) (l:List Int),l.length=n.nodes.length->Own g g0.nx u 1 (l.map ci)->∀g2:G,gT .slice u g2=.val (.int .i64 (n.nodes.length:Int)):=fun g l hl ho g2=>by rw[jI ho.rows];simp[hl]
 obtain ⟨INV,hINV⟩:∃INV:Nat->PT,INV=(fun m t df g=>df=[]/\∃(j:Nat) (vs:List Int),m=S.aD n - j/\j<S.aD n/\InC (S.aa n) vs/\S.an (S.aa n) vs=(j:Int)/\St t (LM id n.grain b fl S_ w u j t1 t2)/\Own g g0.nx u 1 (vs.map ci)/\J j g.h/\g0.nx<=g.nx):=⟨_,rfl⟩
 refine nH INV (S.aD n) ?_ ?_
 ·rw[hINV]
  exact ⟨rfl,0,List.replicate n.nodes.length 0,rfl,by omega,by rw[<-hcl];exact Fc hcs1,by rw[uL];rfl,by simp[St,LM,sx],by simpa [ci] using hu,hJ 0 _ _ (fun i hi=>fr1 i hi) h0,by omega⟩
 intro m t df g hI
 have hI2:=hI
 rw[hINV] at hI2
 obtain ⟨rfl,j,vs,rfl,hj,hin,hidx,⟨h0,h1,h2,h4,h5,-⟩,ho,hJj,hnx⟩:=hI2
 clear hI
 have hvl:=hin.len
 rw[aM] at hvl
 have hval:S.aw (S.aa n) (j:Int)=vs:=by rw[<-hidx];exact uS hcs1 hin
 have hvu:vid u=some g0.nx:=v1
 have hsl:SlR (fun i=>g0.nx<=i/\i<g.nx) 0 g.h vs u:=Own.sl (α:=Int) ho (by omega) (All2.of_map (fun a=>aX.2 rfl) _) fun i hi=>ho.lt hi
 have hmt:=Bp (d:=d) (g:=g) (v:=u) (w:=w) (vals:=vs) (e:=e) hd hsl (hw.tree (h':=g.h) (Nat.le_refl _)) (by omega)
 have hlu:=hul g vs hvl ho
 have w1:IntKind.wrap .i64 ((n.nodes.length:Int) - 1)=(n.nodes.length:Int) - 1:=aH (by omega) (by omega)
 obtain ⟨R,hR⟩:∃R,R=sQ [oM 28 4,oN 29 28,o 30 (.bin .sub (.t 29) (qI 1)),oM 6 30] (.seq (.blk 2 (.loop a_)) be):=⟨_,rfl⟩
 simp only[cT]
 rw[<-hR,du,qq]
 obtain ⟨Q1,hQ1⟩:∃Q1,Q1=kB 1 (kS (wp C0 d none bH (kL INV (S.aD n - j) (kB 0 Qf))) (kL INV (S.aD n - j) (kB 0 Qf))):=⟨_,rfl⟩
 rw[<-hQ1]
 have rest:∀(t:T) (g:G),St t (LM id n.grain b fl S_ w u j t1 t2)->Own g g0.nx u 1 (vs.map ci)->J (j+1) g.h->g0.nx<=g.nx->wp C0 d none R Q1 t [] g:=by
  rintro t g ⟨h0,h1,h2,h4,h5,-⟩ ho hJj hnx
  rw[hR,hQ1]
  simp only[sz,simprocAttr,h4,hlu,w1]
  refine Ec (t1:=t1) (t2:=t2) (id:=id) (k:=j) (m:=n.nodes.length) (n:=n) (b:=b) (fl:=fl) (S_:=S_) (w:=w) (u:=u) (vs:=vs) (g0:=g0) hr hN hin (Nat.le_refl _) ⟨by simp[sx],by simp[St,LM,sx,h0,h1,h2,h4,h5],?_,fun i c hi hc=>?_⟩ ?_
  ·rw[List.take_of_length_le (by omega),show vs.length - n.nodes.length=0 by omega]
   simpa using ho
  ·have:=(List.getElem?_eq_some_iff.1 hc).1
   omega
  rintro m' t2 g2 hm' ⟨h6,⟨h0,h1,h2,h4,h5,-⟩,ho2,hmx⟩ hn2 hf2 hcase
  have hJ2:J (j+1) g2.h:=hJ _ _ _ (fun i hi=>hf2 i fun e=>by rw[hvu] at e;injection e with e;omega) hJj
  rcases hcase with rfl | ⟨x,c,hx,hc,hxc,hm0⟩
  ·have hlast:j+1=S.aD n:=by
    have:=xR (cs:=S.aa n) (vs:=vs) hin.len.symm fun i c hc=>hmx i c (Nat.zero_le _) hc
    omega
   have c1:(((0:Nat):Int) - 1<0):=by omega
   rw[hQf]
   simp only[sz,simprocAttr,be,aC,h6,c1]
   rw[hlast] at hJ2
   exact fin g2 hJ2 (by omega)
  ·obtain ⟨i,rfl⟩:∃i,m'=i+1:=⟨m' - 1,by omega⟩
   rw[Nat.add_sub_cancel] at hx hc
   have hil:=(List.getElem?_eq_some_iff.1 hx).1
   have e1:((i+1:Nat):Int) - 1=(i:Int):=by omega
   rw[e1] at h6
   have c1:¬((i:Int)<0):=by omega
   have u1:i<((vs.take (i+1)++List.replicate (vs.length - (i+1)) 0).map ci).length:=by simp;omega
   have u2:((vs.take (i+1)++List.replicate (vs.length - (i+1)) 0).map ci)[i]?=some (ci x):=by
    rw[List.getElem?_map,List.getElem?_append_left (by simp;omega),List.getElem?_take_of_lt (by omega),hx];rfl
   have ru:=ho2.rows
   obtain ⟨x',hx',hx0,hx1⟩:=hin.get hc
   rw[Ci hx' hx] at hx0 hx1
   have hcb:=hr.cs c (List.mem_of_getElem? hc)
   have w2:IntKind.wrap .i64 (x+1)=x+1:=aH (by omega) (by omega)
   simp only[sz,simprocAttr,be,h6,c1,h4,ru,u1,u2,ci,w2]
   refine cq (v:=u) (sz:=1) (n:=1) (i:=i) (off:=0) (x:=.int .i64 (x+1)) (row':=ci (x+1)) ho2 u2 rfl rfl rfl fun g4 hu4 n4 f4=>?_
   rw[<-List.map_set,xF hil] at hu4
   have hin2:=Hh hin hcs1 hx hc hxc
   have hidx2:=FL (cs:=S.aa n) (vs:=vs) hin.len.symm hx fun k c hk hc=>hmx k c (by omega) hc
   rw[hidx] at hidx2
   have hlt2:=dH hr.cs hin2
   have w3:IntKind.wrap .i64 ((j:Int)+1)=((j+1:Nat):Int):=by rw[aH (by omega) (by omega)];rfl
   simp only[sz,simprocAttr,bH,h5,w3]
   refine ⟨S.aD n - (j+1),by omega,?_⟩
   rw[hINV]
   refine ⟨rfl,j+1,_,rfl,by omega,hin2,by rw[hidx2];rfl,by simp[St,LM,sx,h0,h1,h2,h4],hu4,hJ _ _ _ (fun i hi=>f4 i fun e=>by rw[hvu] at e;injection e with e;omega) hJ2,by omega⟩
 cases hm:S.jm vs e with
 | false =>
  rw[hm] at hmt
  rw[du]
  simp only[sz,simprocAttr,h4,h2,iC,hmt]
  exact rest _ _ (by simp[St,LM,sx,h0,h1,h2,h4,h5]) ho (skip j _ hj (by rw[hval];exact hm) hJj) hnx
 | true =>
  rw[hm] at hmt
  rw[du]
  have hwt:=Eo (d:=d) (g:=g) (v:=.agg [.int .i64 n.grain,b,fl,S_]) (w:=u) (vals:=vs) (y:=y) hd hr ⟨_,rfl,Rp.tree hcs (Nat.le_refl _)⟩ hq hsl hin
  simp only[sz,simprocAttr,h0,h1,h5,h4,h2,iC,hmt,hwt,J2 (a:=.int .i64 (j:Int)) (b:=.int .i64 (S.aJ n vs)) ⟨rfl,rfl⟩ ⟨rfl,rfl⟩ ho.cell]
  have st:=fun K' D=>step j u g K' D hj (by rw[hval];exact hm) hnx hJj (by rw[hval];exact hsl)
  rw[hval] at st
  show (cj (I C0) d id [.agg [.int .i64 (j:Int),.int .i64 (S.aJ n vs),u]] g).sat _ _ _
  refine st _ _ (fun g' hJ' hn' hf'=>?_) fun g' hE=>?_
  ·simp only[sz,simprocAttr]
   exact rest _ _ (by simp[St,LM,sx,h0,h1,h2,h4,h5]) (ho.fr hn' fun i hi=>hf' i (ho.lt hi).1 (ho.lt hi).2) hJ' (by omega)
  ·rw[hQ1,hQf]
   simp only[sz,simprocAttr,aC]
   exact finE g' hE
theorem DZ {C:Cfg}{d id nt:Nat}{t:T}{ps:List Nat}{assign body:Code}{a b:SC}{dfr:Nat}{args:List AV}{g:G}{K:AV->G->Prop}{D:ADf->Prop}{t':T}
  (hg:g.h.get id=.loop nt t ps assign body dfr .ready none) (ha:dE C nt assign=a) (hb:dE C nt body=b) (hp:cG t nt ps args=some t')
  (h:wp C d (some id) a (fun e t1 df g1=>e=.norm/\df=[]/\g1.h.get id=.loop nt t ps assign body dfr .ready none /\
   wp C d (some id) b (fun e _ df g2=>df=[]/\g2.h.get id=.loop nt t ps assign body dfr .busy none/\((e=.norm/\K (.bool true) (g2.put id (.loop nt t ps assign body dfr .ready none)))\/(e=.ret/\K (.bool false) (g2.put id (.loop nt t ps assign body dfr .done (some .ret))))))
    t1 [] (g1.put id (.loop nt t ps assign body dfr .busy none))) t' [] g) :
  (cj (I C) d id args g).sat K g D:=by
 subst ha;subst hb
 unfold cj
 rw[show g.get id=_ from hg]
 dsimp only
 rw[hp]
 dsimp only
 have h1:=pR h
 cases hc:(I C).code nt d (some id) assign t' [] g with
 | fail=>rw[hc] at h1;exact h1.elim
 | ok e t1 df g1 =>
  rw[hc] at h1
  obtain ⟨rfl,rfl,hg1,h2⟩:=h1
  dsimp only
  rw[show g1.get id=_ from hg1]
  dsimp only
  have h3:=pR h2
  cases hc2:(I C).code nt d (some id) body t1 [] (g1.put id (.loop nt t ps assign body dfr .busy none)) with
  | fail=>rw[hc2] at h3;exact h3.elim
  | ok e t2 df2 g2 =>
   rw[hc2] at h3
   obtain ⟨rfl,h4,h5⟩:=h3
   dsimp only
   rw[show g2.get id=_ from h4]
   rcases h5 with ⟨rfl,h5⟩ | ⟨rfl,h5⟩<;>exact h5
theorem y4:C0.ext N.af=none:=by kernel_rfl
theorem wM {d nt p r t1 t2 ky ke:Nat}{n:Net}{y:QnM}{e:List Int}{cs:List AV}{w:AV}{ca cb:SC}{Q:QT}{t:T}{df:List ADf}{g:G}(hd:0<d)(hr:NR n)(hq:QnOk n y)(hcs:Rp.rp NoP ky .nil y cs)(hw:SlR NoP ke .nil e w)(hel:e.length<=n.nodes.length)
  (hv:tat t r=.clo N.af [] [.tptr t1 4 [cs] 0 0,.tptr t2 1 [[w]] 0 0]) (hp:p<nt)
  (J:Nat->H->Prop) (E:H->Prop) (hJ:∀j h h',(∀i,i<g.nx->h'.get i=h.get i)->J j h->J j h') (hE:∀h h',(∀i,i<g.nx->h'.get i=h.get i)->E h->E h') (h0:J 0 g.h)
  (skip:∀(j:Nat) (h:H),j<S.aD n->S.jm (S.aw (S.aa n) j) e=false->J j h->J (j+1) h)
  (step:∀(j:Nat) (u:AV) (g1:G),j<S.aD n->S.jm (S.aw (S.aa n) j) e=true->J j g1.h->g.nx+2<=g1.nx->SlR (fun i=>g.nx+2<=i/\i<g1.nx) 0 g1.h (S.aw (S.aa n) j) u ->
   wp C0 d (some (g.nx+1)) ca (fun e t1 df g1'=>e=.norm/\df=[]/\Fr g1 g1'/\∀g2:G,g2.nx=g1'.nx->(∀i,i≠g.nx+1->g2.h.get i=g1'.h.get i) ->
    wp C0 d (some (g.nx+1)) cb (fun e _ df g3=>df=[]/\RowQ g.nx g2 g3 e (J (j+1) g3.h) (E g3.h)) t1 [] g2)
    (dW t p (.agg [.int .i64 (j:Int),.int .i64 (S.aJ n (S.aw (S.aa n) j)),u])) [] g1)
  (fin:∀g',J (S.aD n) g'.h->g.nx+2<=g'.nx->g'.h.get g.nx=.dfr true->Q .norm t (.mark g.nx::df) g')
  (finE:∀g',E g'.h->g.nx+2<=g'.nx->g'.h.get g.nx=.dfr true->Q .ret t (.mark g.nx::df) g') :
  wp C0 d none (.rng nt (.t r) [p] ca cb) Q t df g:=by
 obtain ⟨b,fl,S_,rfl,-,-,-⟩:=qV.1 hcs
 rw[hq.net] at hv hcs
 refine qQ (fn:=N.af) (first:=[]) (cap:=[.tptr t1 4 [[.int .i64 n.grain,b,fl,S_]] 0 0,.tptr t2 1 [[w]] 0 0]) (s:=aC) hv y4 jf (by simp[aC]) ?_
 intro assign body ha hb
 have e1:((g.new (.dfr true)).new (.loop nt t [p] assign body g.nx .ready none)).nx=g.nx+2:=by simp
 refine EE (g0:=(g.new (.dfr true)).new (.loop nt t [p] assign body g.nx .ready none)) (id:=g.nx+1) hd hr hq hcs hw hel
  (fun j h=>J j h/\h.get g.nx=.dfr true/\h.get (g.nx+1)=.loop nt t [p] assign body g.nx .ready none)
  (fun g'=>E g'.h/\g'.h.get g.nx=.dfr true/\g'.h.get (g.nx+1)=.loop nt t [p] assign body g.nx .done (some .ret)/\g.nx+2<=g'.nx) ?_ ?_ ?_ ?_ ?_ ?_
 ·rintro j h h' hh ⟨a1,a2,a3⟩
  rw[e1] at hh
  exact ⟨hJ j h h' (fun i hi=>hh i (by omega)) a1,by rw[hh _ (by omega),a2],by rw[hh _ (by omega),a3]⟩
 ·rintro j h hj hm ⟨a1,a2,a3⟩
  exact ⟨skip j h hj hm a1,a2,a3⟩
 ·rintro j u g1 K' D hj hm hn ⟨a1,a2,a3⟩ hsl kk kE
  rw[e1] at hn kk hsl
  refine DZ a3 ha hb (t':=dW t p (.agg [.int .i64 (j:Int),.int .i64 (S.aJ n (S.aw (S.aa n) j)),u])) ?_ ?_
  ·simp only[cG,aa,Nat.blt_eq,if_pos hp];rfl
  ·refine cJ _ (step j u g1 hj hm a1 (by omega) hsl) ?_
   rintro e t1 df g1' ⟨rfl,rfl,hfr,h⟩
   have hl0:g.nx+1<g1.nx:=by omega
   have hl:g.nx+1<g1'.nx:=Nat.lt_of_lt_of_le hl0 hfr.1
   have a2':g1'.h.get g.nx=.dfr true:=by rw[hfr.2 _ (by omega),a2]
   have a3':g1'.h.get (g.nx+1)=.loop nt t [p] assign body g.nx .ready none:=by rw[hfr.2 _ hl0,a3]
   refine ⟨rfl,rfl,a3',?_⟩
   refine cJ _ (h (g1'.put (g.nx+1) (.loop nt t [p] assign body g.nx .busy none)) (by simp) (fun i hi=>by simp[H.get_put,hi])) ?_
   rintro e t2 df g3 ⟨rfl,⟨b2,b3,b1⟩⟩
   have b4:g3.h.get (g.nx+1)=.loop nt t [p] assign body g.nx .busy none:=by rw[b3 _ (by omega) (by simpa using hl)];simp[H.get_put]
   have b5:g3.h.get g.nx=.dfr true:=by
    rw[b3 _ (by omega) (by simp;omega)];simp[H.get_put,a2']
   refine ⟨rfl,b4,?_⟩
   have b2':g1'.nx<=g3.nx:=by simpa using b2
   have hf1:=hfr.1
   rcases b1 with ⟨rfl,b1⟩ | ⟨rfl,b1⟩
   ·refine .inl ⟨rfl,kk _ ⟨hJ _ g3.h _ (fun i hi=>by simp[H.get_put,show ¬i=g.nx+1 by omega]) b1,?_,?_⟩ (by simp;omega) fun i h1 h2=>?_⟩
    ·simp[H.get_put,b5]
    ·simp[H.get_put]
    ·have hne:¬i=g.nx+1:=by omega
     have:=b3 i (by omega) (by simp;omega)
     simp[H.get_put,hne] at this ⊢
     rw[this,hfr.2 i h2]
   ·refine .inr ⟨rfl,kE _ ⟨hE g3.h _ (fun i hi=>by simp[H.get_put,show ¬i=g.nx+1 by omega]) b1,?_,?_,?_⟩⟩
    ·simp[H.get_put,b5]
    ·simp[H.get_put]
    ·simp;omega
 ·refine ⟨hJ 0 g.h _ (fun i hi=>?_) h0,?_,?_⟩
  ·simp[H.get_put,show ¬i=g.nx+1 by omega,show ¬i=g.nx by omega]
  ·simp[H.get_put]
  ·simp[H.get_put]
 ·rintro g' ⟨a1,a2,a3⟩ hn
  rw[e1] at hn
  refine ⟨_,_,_,_,_,_,.inl ⟨a3,fin _ (hJ _ g'.h _ (fun i hi=>by simp[H.get_put,show ¬i=g.nx+1 by omega]) a1) (by simpa using hn) ?_⟩⟩
  simp[H.get_put,a2]
 ·rintro g' ⟨a1,a2,a3,hn⟩
  refine ⟨_,_,_,_,_,_,.inr ⟨a3,finE _ (hE g'.h _ (fun i hi=>by simp[H.get_put,show ¬i=g.nx+1 by omega]) a1) (by simpa using hn) ?_⟩⟩
  simp[H.get_put,a2]
theorem CE {n:Net}(h:NR n){p:Nat->Bool}{j:Nat}(hj:j<=1024):0<=S.aO n p j/\S.aO n p j<=171992678400000000:=by
 have:=uk h p j
 omega
theorem I8 (g:G)(o o':AObj):Fr g ((g.new o).put g.nx o'):=⟨by simp,fun i hi=>by simp[H.get_put,show ¬i=g.nx by omega]⟩
structure CdOk (l:List Int):Prop where
 c:∀x∈l,1<=x/\x<=4
 l8:l.length<=8
 p:S.ae l<=1024
end
end Hx
end
section
namespace Hx
open Go
def S.sm (F:Nat->Int):Nat->Int
 | 0=>0
 | j+1=>S.sm F j+F j
theorem bL {F G:Nat->Int}:∀{k:Nat},(∀i,i<k->F i=G i)->S.sm F k=S.sm G k
 | 0,_=>rfl
 | k+1,h=>by rw[S.sm,S.sm,bL fun i hi=>h i (by omega),h k (by omega)]
theorem G8 (F G:Nat->Int):∀k,S.sm (fun i=>F i+G i) k=S.sm F k+S.sm G k
 | 0=>rfl
 | k+1=>by rw[S.sm,S.sm,S.sm,G8 F G k];omega
theorem nk (c:Int)(F:Nat->Int):∀k,S.sm (fun i=>c*F i) k=c*S.sm F k
 | 0=>by simp[S.sm]
 | k+1=>by rw[S.sm,S.sm,nk c F k,Int.mul_add]
theorem kT (c:Int):∀k:Nat,S.sm (fun _=>c) k=k*c
 | 0=>by simp[S.sm]
 | k+1=>by
  rw[S.sm,kT c k]
  have:((k+1:Nat):Int)=(k:Int)+1:=by omega
  rw[this,Int.add_mul,Int.one_mul]
theorem FH (F:Nat->Int)(a:Nat):∀b,S.sm F (a+b)=S.sm F a+S.sm (fun j=>F (a+j)) b
 | 0=>by simp[S.sm]
 | b+1=>by rw[<-Nat.add_assoc,S.sm,S.sm,FH F a b];omega
theorem zV (F:Nat->Int)(b:Nat):∀a,S.sm F (a*b)=S.sm (fun i=>S.sm (fun j=>F (i*b+j)) b) a
 | 0=>by simp[S.sm]
 | a+1=>by rw[Nat.add_mul,Nat.one_mul,FH,S.sm,zV F b a]
def S.ah:List Int->(List Int->Int)->Int
 | [],F=>F []
 | c::cs,F=>S.sm (fun x=>S.ah cs fun vs=>F ((x:Int)::vs)) c.toNat
theorem eO:∀{cs:List Int} {F G:List Int->Int},(∀vs,InC cs vs->F vs=G vs)->S.ah cs F=S.ah cs G
 | [],_,_,h=>h [] trivial
 | c::cs,F,G,h=>by
  rw[S.ah,S.ah]
  exact bL fun i hi=>eO fun vs hv=>h _ ⟨⟨by omega,by omega⟩,hv⟩
theorem Cf:∀(cs:List Int) (F G:List Int->Int),S.ah cs (fun v=>F v+G v)=S.ah cs F+S.ah cs G
 | [],_,_=>rfl
 | c::cs,F,G=>by
  rw[S.ah,S.ah,S.ah,<-G8]
  exact bL fun i _=>Cf cs _ _
theorem Cy (k:Int):∀(cs:List Int) (F:List Int->Int),S.ah cs (fun v=>k*F v)=k*S.ah cs F
 | [],_=>rfl
 | c::cs,F=>by
  rw[S.ah,S.ah,<-nk]
  exact bL fun i _=>Cy k cs _
theorem Ab:∀cs:List Int,S.ah cs (fun _=>0)=0
 | []=>rfl
 | c::cs=>by
  rw[S.ah,bL (G:=fun _=>0) fun i _=>Ab cs,kT];simp
theorem Hv (cs:List Int)(F:Nat->List Int->Int):∀k,S.ah cs (fun v=>S.sm (fun x=>F x v) k)=S.sm (fun x=>S.ah cs (F x)) k
 | 0=>Ab cs
 | k+1=>by
  rw[S.sm,<-Hv cs F k,<-Cf]
  exact eO fun _ _=>rfl
theorem yC:∀{cs:List Int},(∀c∈cs,1<=c)->S.ah cs (fun _=>1)=S.ae cs
 | [],_=>rfl
 | c::cs,h=>by
  rw[S.ah,bL (G:=fun _=>S.ae cs) fun i _=>yC fun x hx=>h x (by simp[hx]),kT,bV]
  have:=h c (by simp)
  rw[Int.toNat_of_nonneg (by omega)]
theorem CN:∀{a va b vb:List Int},InC a va->InC b vb->InC (a++b) (va++vb)
 | [],[],_,_,_,h=>h
 | _::_,_::_,_,_,h1,h2=>⟨h1.1,CN h1.2 h2⟩
theorem qt:∀{cs pre pv:List Int} (F:List Int->Int),(∀c∈pre++cs,1<=c)->InC pre pv ->
  S.sm (fun j=>F (S.aw (pre++cs) (S.an pre pv*S.ae cs+(j:Int)))) (S.ae cs).toNat=S.ah cs fun vs=>F (pv++vs)
 | [],pre,pv,F,hc,hp=>by
  have e:S.aw pre (S.an pre pv*S.ae []+((0:Nat):Int))=pv:=by
   have:S.an pre pv*S.ae []+((0:Nat):Int)=S.an pre pv:=by simp[S.ae]
   rw[this]
   exact uS (fun c h=>hc c (by simp[h])) hp
  show S.sm _ 1=F (pv++[])
  rw[S.sm,S.sm,List.append_nil,List.append_nil,e];omega
 | c::cs,pre,pv,F,hc,hp=>by
  have hcc:=hc c (by simp)
  have hP:1<=S.ae cs:=eT fun x hx=>hc x (by simp[hx])
  obtain ⟨P,hPe⟩:=Int.eq_ofNat_of_zero_le (show 0<=S.ae cs by omega)
  obtain ⟨C,hCe⟩:=Int.eq_ofNat_of_zero_le (show 0<=c by omega)
  have e1:(S.ae (c::cs)).toNat=C*P:=by rw[bV,hPe,hCe,<-Int.natCast_mul,Int.toNat_natCast]
  rw[e1,zV,S.ah,hCe,Int.toNat_natCast]
  refine bL fun i hi=>?_
  have ih:=qt (cs:=cs) (pre:=pre++[(C:Int)]) (pv:=pv++[(i:Int)]) F (by rw[<-hCe];simpa using hc) (CN hp ⟨⟨by omega,by omega⟩,trivial⟩)
  rw[hPe,Int.toNat_natCast] at ih
  have el:=hp.len
  rw[nh _ _ el.symm] at ih
  have e2:∀vs,pv++[(i:Int)]++vs=pv++(i:Int)::vs:=fun vs=>by simp
  simp only[e2] at ih
  rw[<-ih]
  refine bL fun j _=>?_
  have e3:pre++[(C:Int)]++cs=pre++(C:Int)::cs:=by simp
  rw[e3]
  congr 2
  have e4:S.an [(C:Int)] [(i:Int)]=(i:Int):=by simp[S.an,S.ae]
  have e5:S.ae [(C:Int)]=(C:Int):=by simp[S.ae]
  rw[e4,e5,bV,hPe,Int.add_mul,Int.natCast_add,Int.natCast_mul,Int.mul_assoc]
  omega
theorem rU (gr:Int):∀{cs:List Int} {v:Nat} {c:Int} {G f:List Int->Int},cs[v]?=some c->0<=c->(∀vs x,InC cs vs->G (vs.set v x)=G vs)->(∀vs,InC cs vs->S.sm (fun x=>f (vs.set v (x:Int))) c.toNat=gr) ->
  c*S.ah cs (fun vs=>G vs*f vs)=gr*S.ah cs G
 | [],v,c,G,f,hc,_,_,_=>by simp at hc
 | c'::cs,0,c,G,f,hc,h0,hG,hf=>by
  simp at hc
  subst hc
  by_cases hz:c'=0
  ·subst hz;simp[S.ah,S.sm]
  have hin:∀vs,InC cs vs->InC (c'::cs) (0::vs):=fun vs hv=>⟨⟨Int.le_refl _,by omega⟩,hv⟩
  have e1:S.ah (c'::cs) G=c'*S.ah cs (fun vs=>G (0::vs)):=by
   rw[S.ah,bL (G:=fun _=>S.ah cs fun vs=>G (0::vs)) fun i _=>eO fun vs hv=>?_,kT,Int.toNat_of_nonneg h0]
   exact hG (0::vs) (i:Int) (hin vs hv)
  have e2:S.ah (c'::cs) (fun vs=>G vs*f vs)=gr*S.ah cs (fun vs=>G (0::vs)):=by
   rw[S.ah,<-Hv,<-Cy]
   refine eO fun vs hv=>?_
   rw[bL (G:=fun x=>G (0::vs)*f ((x:Int)::vs)) fun i _=>by rw[show G ((i:Int)::vs)=G (0::vs) from hG (0::vs) (i:Int) (hin vs hv)],nk]
   have:=hf (0::vs) (hin vs hv)
   simp only[List.set_cons_zero] at this
   rw[this,Int.mul_comm]
  rw[e1,e2,Int.mul_left_comm]
 | c'::cs,v+1,c,G,f,hc,h0,hG,hf=>by
  rw[S.ah,S.ah,<-nk,<-nk]
  refine bL fun i hi=>?_
  have hc:cs[v]?=some c:=by simpa using hc
  have hin:∀vs,InC cs vs->InC (c'::cs) ((i:Int)::vs):=fun vs hv=>⟨⟨by omega,by omega⟩,hv⟩
  exact rU gr (G:=fun vs=>G ((i:Int)::vs)) (f:=fun vs=>f ((i:Int)::vs)) hc h0 (fun vs x hv=>hG ((i:Int)::vs) x (hin vs hv)) fun vs hv=>hf ((i:Int)::vs) (hin vs hv)
def S.pT (T:Nat)(n:Nat)(f:Nat->Int):Int:=S.ae ((List.range n).map fun u=>if T.testBit u then f u else 1)
theorem dO (T n:Nat)(f:Nat->Int):S.pT T (n+1) f=S.pT T n f*if T.testBit n then f n else 1:=by
 rw[S.pT,List.range_succ,List.map_append,List.map_singleton,mj];rfl
theorem gw {T:Nat}{f g:Nat->Int}:∀{n:Nat},(∀u,u<n->T.testBit u=true->f u=g u)->S.pT T n f=S.pT T n g
 | 0,_=>rfl
 | n+1,h=>by
  rw[dO,dO,gw fun u hu hb=>h u (by omega) hb]
  split
  ·rename_i hb;rw[h n (by omega) hb]
  ·rfl
theorem BQ {T T':Nat}{f:Nat->Int}:∀{n:Nat},(∀u,u<n->T'.testBit u=T.testBit u)->S.pT T' n f=S.pT T n f
 | 0,_=>rfl
 | n+1,h=>by rw[dO,dO,BQ fun u hu=>h u (by omega),h n (by omega)]
theorem qS {T T' v:Nat}{f:Nat->Int}(h0:T.testBit v=false)(h1:T'.testBit v=true)(hs:∀u,u≠v->T'.testBit u=T.testBit u):∀{n:Nat},v<n->S.pT T' n f=S.pT T n f*f v
 | 0,h=>absurd h (Nat.not_lt_zero v)
 | n+1,h=>by
  rw[dO,dO]
  by_cases e:v=n
  ·subst e
   rw[h0,h1,BQ fun u hu=>hs u (by omega)];simp
  ·rw[qS h0 h1 hs (n:=n) (by omega),hs n (by omega),Int.mul_assoc,Int.mul_assoc,Int.mul_comm (f v)]
theorem qw {T:Nat}{f:Nat->Int}:∀{n:Nat},(∀u,u<n->T.testBit u=true)->S.pT T n f=S.ae ((List.range n).map f)
 | 0,_=>rfl
 | n+1,h=>by rw[dO,qw fun u hu=>h u (by omega),h n (by omega),List.range_succ,List.map_append,List.map_singleton,mj];rfl
theorem Cr {f:Nat->Int}:∀{n:Nat},S.pT 0 n f=1
 | 0=>rfl
 | n+1=>by rw[dO,Cr];simp
theorem tQ {vals ps:List Int}{v:Nat}(x:Int)(h:∀p∈ps,p.toNat≠v):S.af (vals.set v x) ps=S.af vals ps:=by
 refine List.map_congr_left fun p hp=>?_
 rw[List.getElem?_set_ne fun e=>h p hp e.symm]
theorem xZ {n:Net}{vals:List Int}{u v:Nat}(x:Int)(hu:u≠v)(h:∀y,n.nodes[u]?=some y->∀p∈y.parents,p.toNat≠v):S.am n (vals.set v x) u=S.am n vals u:=by
 unfold S.am
 split
 ·rfl
 ·rename_i y hy
  rw[tQ x (h y hy),List.getElem?_set_ne (Ne.symm hu)]
theorem Jz:∀(r:List Int),S.sm (fun x=>r[x]?.getD 0) r.length=r.sum:=by
 intro r
 have:∀k,k<=r.length->S.sm (fun x=>r[x]?.getD 0) k=(r.take k).sum:=by
  intro k
  induction k with
  | zero=>intro _;rfl
  | succ k ih =>
   intro hk
   rw[S.sm,ih (by omega),List.take_succ_eq_append_getElem (by omega),List.sum_append]
   simp[List.getElem?_eq_getElem (show k<r.length by omega)]
 rw[this _ (Nat.le_refl _),List.take_length]
end Hx
end
section
namespace Hx
open Go
theorem qZ {n:Net}(hr:NR n):∀x∈S.ak n,x<2 ^ (S.ak n).length:=by
 intro x hx
 obtain ⟨y,hy,rfl⟩:=List.mem_map.1 hx
 have hl:=hr.l2
 have:(S.ak n).length=n.nodes.length:=by simp[S.ak]
 rw[this]
 exact zD (by omega) fun p hp=>by have:=bU (hr.places y hy) p hp;omega
theorem AU {n:Net}(hr:NR n){v:Nat}{x:Node}(hx:n.nodes[v]?=some x)(w:Nat):(Par (S.ak n) v).testBit w=true↔(w:Int)∈x.parents:=by
 have hl:=hr.l2
 have:Par (S.ak n) v=S.ax x.parents:=by simp[Par,S.ak,hx]
 rw[this]
 exact rL fun p hp=>by have:=bU (hr.places x (List.mem_of_getElem? hx)) p hp;omega
theorem C5 {n:Net}(hr:NR n){v:Nat}{x:Node}(hx:n.nodes[v]?=some x)(hnp:∀p∈x.parents,p.toNat≠v){vs:List Int}(hv:InC (S.aa n) vs) :
  S.sm (fun y=>S.am n (vs.set v (y:Int)) v) x.card.toNat=n.grain:=by
 have hxm:=List.mem_of_getElem? hx
 have hi:=dH (ba hr.cs (hr.pin hxm)) (fR hv (hr.pin hxm))
 rw[<-hr.rows x hxm] at hi
 obtain ⟨i,he⟩:=Int.eq_ofNat_of_zero_le hi.1
 have hil:i<x.rows.length:=by omega
 obtain ⟨r1,r2,r3⟩:=hr.row x hxm x.rows[i] (List.getElem_mem hil)
 have hlen:=hv.len
 rw[aM] at hlen
 have hvl:=(List.getElem?_eq_some_iff.1 hx).1
 rw[<-r3,<-Jz,show x.card.toNat=(x.rows[i]).length by omega]
 refine bL fun y hy=>?_
 simp only[S.am,hx,tQ (y:Int) hnp,he,Int.toNat_natCast,List.getElem?_eq_getElem hil,Option.getD_some]
 rw[List.getElem?_set_self (by omega)]
 rfl
theorem EK {n:Net}(hr:NR n):S.ah (S.aa n) (S.aJ n)=S.be n:=by
 have hl:=hr.l2
 have hcl:=aM n
 have hpl:(S.ak n).length=n.nodes.length:=by simp[S.ak]
 have hprod:=eT fun c hc=>(hr.cs c hc).1
 have key:∀m T:Nat,2 ^ n.nodes.length - T<=m->T<2 ^ n.nodes.length->(∀u,u<n.nodes.length->T.testBit u=true->Sub (Par (S.ak n) u) T) ->
   S.ah (S.aa n) (fun vs=>S.pT T n.nodes.length (S.am n vs))*S.pT T n.nodes.length (fun u=>(S.aa n)[u]?.getD 0)=S.pT T n.nodes.length (fun _=>n.grain)*S.ae (S.aa n) ->
   S.ah (S.aa n) (S.aJ n)=S.be n:=by
  intro m
  induction m with
  | zero=>intro T h1 h2;omega
  | succ m ih =>
   intro T h1 h2 hg he
   by_cases hst:∀v,v<n.nodes.length->T.testBit v=false->¬Sub (Par (S.ak n) v) T
   ·have hall:=jC (qZ hr) hr.acyc (T:=T) (fun v hv=>hst v (by omega))
    rw[hpl] at hall
    have e1:∀vs,S.pT T n.nodes.length (S.am n vs)=S.aJ n vs:=fun vs=>qw hall
    have e2:S.pT T n.nodes.length (fun u=>(S.aa n)[u]?.getD 0)=S.ae (S.aa n):=by
     rw[qw hall]
     congr 1
     refine List.ext_getElem (by simp[hcl]) fun i h1 h2=>?_
     simp[List.getElem?_eq_getElem h2]
    have e3:S.pT T n.nodes.length (fun _=>n.grain)=S.be n:=by
     rw[qw hall,S.be]
     congr 1
     refine List.ext_getElem (by simp) fun i h1 h2=>?_
     simp
    simp only[e1] at he
    rw[e2,e3] at he
    exact Int.eq_of_mul_eq_mul_right (by omega) he
   ·simp only[Classical.not_forall,Classical.not_not] at hst
    obtain ⟨v,hv,hb,hs⟩:=hst
    obtain ⟨x,hx,-,-⟩:=aw hv
    have hnT:∀u,T.testBit u=true->u≠v:=fun u hu e=>by rw[e,hb] at hu;cases hu
    have hpos:∀(u:Nat) (y:Node),n.nodes[u]?=some y->Sub (Par (S.ak n) u) T->∀p∈y.parents,p.toNat≠v:=fun u y hy hsu p hp=>by
     have h0:=bU (hr.places y (List.mem_of_getElem? hy)) p hp
     refine hnT _ (hsu _ ((AU hr hy p.toNat).2 ?_))
     rw[Int.toNat_of_nonneg h0.1];exact hp
    have hv64:v<64:=by omega
    have t1:(T ||| S.au v).testBit v=true:=by rw[fY,ki hv64];simp
    have t2:∀u,u≠v->(T ||| S.au v).testBit u=T.testBit u:=fun u hu=>by rw[fY,ki hv64];simp[hu,Ne.symm hu]
    have hlt:T<T ||| S.au v:=Nat.lt_of_le_of_ne Nat.left_le_or fun e=>by rw[<-e,hb] at t1;cases t1
    have hbl:S.au v<2 ^ n.nodes.length:=by
     refine Nat.lt_pow_two_of_testBit _ fun i hi=>?_
     rw[ki hv64];simp;omega
    have hor:T ||| S.au v<2 ^ n.nodes.length:=Nat.or_lt_two_pow h2 hbl
    have hc:(S.aa n)[v]?=some x.card:=by simp[S.aa,hx]
    have hcx:=hr.card x (List.mem_of_getElem? hx)
    refine ih (T ||| S.au v) (by omega) hor (fun u hu hb' w hw=>?_) ?_
    ·rw[fY,Bool.or_eq_true]
     by_cases e:u=v
     ·subst e;exact .inl (hs w hw)
     ·rw[t2 u e] at hb'
      exact .inl (hg u hu hb' w hw)
    ·have e1:S.ah (S.aa n) (fun vs=>S.pT (T ||| S.au v) n.nodes.length (S.am n vs))=S.ah (S.aa n) fun vs=>S.pT T n.nodes.length (S.am n vs)*S.am n vs v :=
      eO fun vs _=>qS hb t1 t2 hv
     have e2:=rU n.grain (cs:=S.aa n) (v:=v) (c:=x.card) (G:=fun vs=>S.pT T n.nodes.length (S.am n vs)) (f:=fun vs=>S.am n vs v) hc (by omega)
      (fun vs y _=>gw fun u hu hb'=>xZ y (hnT u hb') fun z hz p hp=>hpos u z hz (hg u hu hb') p hp)
      (fun vs hvs=>C5 hr hx (hpos v x hx hs) hvs)
     rw[e1,qS hb t1 t2 hv,qS hb t1 t2 hv,hc,Option.getD_some]
     generalize S.ah (S.aa n) (fun vs=>S.pT T n.nodes.length (S.am n vs)*S.am n vs v)=A at *
     generalize S.ah (S.aa n) (fun vs=>S.pT T n.nodes.length (S.am n vs))=B at *
     generalize S.pT T n.nodes.length (fun u=>(S.aa n)[u]?.getD 0)=C at *
     generalize S.pT T n.nodes.length (fun _=>n.grain)=D at *
     have h1:A*(C*x.card)=C*(x.card*A):=by ac_rfl
     rw[h1,e2]
     have h2:C*(n.grain*B)=n.grain*(B*C):=by ac_rfl
     rw[h2,he]
     ac_rfl
 refine key (2 ^ n.nodes.length) 0 (Nat.sub_le _ _) (Nat.two_pow_pos _) (fun u _ h=>by simp at h) ?_
 simp only[Cr]
 rw[yC fun c hc=>(hr.cs c hc).1]
 omega
theorem xy (n:Net)(p:Nat->Bool):∀k,S.aO n p k=S.sm (fun j=>if p j then S.aJ n (S.aw (S.aa n) (j:Int)) else 0) k
 | 0=>rfl
 | k+1=>by rw[S.aO,S.sm,xy n p k]
theorem GN {n:Net}(hr:NR n):S.aO n (fun _=>true) (S.aD n)=S.be n:=by
 rw[xy,<-EK hr]
 have:=qt (cs:=S.aa n) (pre:=[]) (pv:=[]) (S.aJ n) (fun c hc=>(hr.cs c (by simpa using hc)).1) trivial
 simp only[List.nil_append,S.an,Int.zero_mul,Int.zero_add] at this
 rw[<-this]
 rfl
theorem CZ {n:Net}(hr:NR n){p q:Nat->Bool}(h:∀i,p i=true->q i=true):∀k,S.aO n p k<=S.aO n q k
 | 0=>Int.le_refl _
 | k+1=>by
  have ih:=CZ hr h k
  have hw:=qf hr (jX (fun c hc=>(hr.cs c hc).1) (k:Int))
  rw[S.aO,S.aO]
  cases hp:p k with
  | true=>rw[h k hp];simp only[if_true];omega
  | false =>
   cases q k<;>simp only[if_true,Bool.false_eq_true,if_false]<;>omega
theorem Hf {k:Nat}(h:k<=5):(60:Int) ^ k<=777600000:=by
 have hk:k=0\/k=1\/k=2\/k=3\/k=4\/k=5:=by omega
 rcases hk with rfl | rfl | rfl | rfl | rfl | rfl<;>decide
theorem Er {n:Net}(hr:NR n)(hl:n.nodes.length<=5):S.be n<=777600000:=by
 have h1:=hr.g1
 have h2:=mY (l:=List.replicate n.nodes.length n.grain) fun x hx=>by
  obtain ⟨-,rfl⟩:=List.mem_replicate.1 hx
  exact ⟨by omega,hr.g2⟩
 rw[List.length_replicate] at h2
 have:=Hf hl
 unfold S.be
 omega
end Hx
end
section
namespace Hx
open Go
noncomputable section
def JY (pm:List Nat)(ws:List (Bool×Bool)):Bool:=(List.range ws.length).all fun j=>(List.range j).all fun i=>!(ws.getD i (false,false)).2 || !(ws.getD j (false,false)).1 || (pm.getD j 0).testBit i
theorem s7 {pm:List Nat}{i:Nat}{x:Foot}:∀{r:List Foot} {j:Nat},(∀b y,r[b]?=some y->y.wr=[]\/(pm.getD (j+b) 0).testBit i=true)->bT pm i x j r=0
 | [],_,_=>rfl
 | y::r,j,h=>by
  have h0:=h 0 y rfl
  have ih:bT pm i x (Nat.succ j) r=0:=s7 fun b z hz=>by
   have:=h (b+1) z (by simpa using hz)
   rwa [show j+(b+1)=Nat.succ j+b by omega] at this
  have hc:((pm.getD j 0).testBit i || !meets y.wr (fst1 x.lk.sr))=true:=by
   rcases h0 with h0 | h0
   ·rw[h0];simp[meets]
   ·rw[Nat.add_zero] at h0;rw[h0,Bool.true_or]
  rw[bT,aa,if_pos hc,ih]
theorem wB {pm:List Nat}:∀{l:List Foot} {i:Nat},(∀a x,l[a]?=some x->x.lk.sr=[]\/∀b y,a<b->l[b]?=some y->y.wr=[]\/(pm.getD (i+b) 0).testBit (i+a)=true)->iZ pm i l=true
 | [],_,_=>rfl
 | x::r,i,h=>by
  have ih:iZ pm (Nat.succ i) r=true:=wB fun a y hy=>by
   rcases h (a+1) y (by simpa using hy) with h' | h'
   ·exact .inl h'
   ·refine .inr fun b z hb hz=>?_
    have:=h' (b+1) z (by omega) (by simpa using hz)
    rwa [show i+(b+1)=Nat.succ i+b by omega,show i+(a+1)=Nat.succ i+a by omega] at this
  rw[iZ,ih]
  rcases h 0 x rfl with h' | h'
  ·rw[h'];first | done | rfl
  ·have hc:bT pm i x (Nat.succ i) r=0:=s7 fun b y hy=>by
    have:=h' (b+1) y (by omega) (by simpa using hy)
    rwa [show i+(b+1)=Nat.succ i+b by omega,Nat.add_zero] at this
   rw[hc]
   cases x.lk.sr<;>rfl
theorem td {pm:List Nat}{fs:List Foot}(ws:List (Bool×Bool))(L:List (Nat×Nat))(hw:All2 (fun (f:Foot) (w:Bool×Bool)=>(w.2=false->f.lk.sr=[])/\(w.1=false->f.wr=[])) fs ws)(hs:JY pm ws=true)(hd:Cq pm (ws.map (·.1)) L=true)
  (hL:∀p∈L,∀x y,fs[p.1]?=some x->fs[p.2]?=some y->bZ x y=true):js pm fs=true:=by
 unfold js
 rw[aa,if_pos]
 ·refine wB fun a x ha=>?_
  obtain ⟨wa,hwa,ka⟩:=hw.get ha
  cases e:wa.2 with
  | false=>exact .inl (ka.1 e)
  | true =>
   refine .inr fun b y hab hb=>?_
   obtain ⟨wb,hwb,kb⟩:=hw.get hb
   have hbl:=(List.getElem?_eq_some_iff.1 hwb).1
   have:=List.all_eq_true.1 (List.all_eq_true.1 hs b (List.mem_range.2 hbl)) a (List.mem_range.2 hab)
   simp only[List.getD_eq_getElem?_getD,hwa,hwb,Option.getD_some,e,Bool.not_true,Bool.false_or,Bool.or_eq_true,Bool.not_eq_true'] at this
   rcases this with h | h
   ·exact .inl (kb.2 h)
   ·refine .inr ?_
    rw[Nat.zero_add,Nat.zero_add,List.getD_eq_getElem?_getD];exact h
 ·refine oI fun a b x y hab ha hb=>?_
  simp only[Nat.zero_add]
  obtain ⟨wa,hwa,ka⟩:=hw.get ha
  obtain ⟨wb,hwb,kb⟩:=hw.get hb
  have hbl:=(List.getElem?_eq_some_iff.1 hwb).1
  have:=List.all_eq_true.1 (List.all_eq_true.1 hd b (List.mem_range.2 (by simpa using hbl))) a (List.mem_range.2 hab)
  simp only[Bo,Bool.or_eq_true] at this
  rcases this with (h | h) | h
  ·rw[h,Bool.true_or]
  ·simp only[List.getD_eq_getElem?_getD,List.getElem?_map,hwa,hwb,Option.map_some,Option.getD_some,Bool.and_eq_true,Bool.not_eq_true'] at h
   have ex:=ka.2 h.1
   have ey:=kb.2 h.2
   simp only[bZ,i7,f8,ex,ey,Bool.and_self,Bool.or_true]
  ·rw[hL (a,b) (List.contains_iff_mem.1 h) x y ha hb,Bool.or_true]
section
variable {α:Type} [DecidableEq α]
def mgt (L:List (α×Int))(k:α):Int:=match L with
 | []=>0
 | (a,v)::r=>if k=a then v else mgt r k
def mst (k:α)(v:Int):List (α×Int)->List (α×Int)
 | []=>[(k,v)]
 | (a,w)::r=>if k=a then (k,v)::r else (a,w)::mst k v r
theorem De (k j:α)(v:Int):∀L:List (α×Int),mgt (mst k v L) j=if j=k then v else mgt L j
 | []=>by simp only[mst,mgt]
 | (a,w)::r=>by
  rw[mst]
  by_cases e:k=a
  ·subst e
   rw[if_pos rfl,mgt,mgt]
   by_cases e2:j=k
   ·rw[if_pos e2,if_pos e2]
   ·rw[if_neg e2,if_neg e2,if_neg e2]
  ·rw[if_neg e,mgt,De k j v r,mgt]
   by_cases e2:j=a
   ·rw[if_pos e2,if_pos e2,if_neg (fun h=>e (by rw[<-h,e2]))]
   ·rw[if_neg e2,if_neg e2]
def mcl (kf:α->AV)(L:List (α×Int)):List (AV×AV):=L.map fun p=>(kf p.1,.int .i64 p.2)
theorem CB {kf:α->AV}(hk:∀a b,fW (kf a) (kf b)=some (decide (a=b)))(k:α):∀L:List (α×Int),ia (kf k) (mcl kf L)=some (if L.any (fun p=>decide (k=p.1)) then some (.int .i64 (mgt L k)) else none)
 | []=>rfl
 | (a,w)::r=>by
  rw[mcl,List.map_cons,ia,hk]
  by_cases e:k=a
  ·subst e;simp[mgt]
  ·have ih:=CB hk k r
   rw[mcl] at ih
   simp only[decide_eq_false e]
   rw[ih,List.any_cons,mgt,if_neg e,decide_eq_false e,Bool.false_or]
theorem zw (k:α):∀L:List (α×Int),L.any (fun p=>decide (k=p.1))=false->mgt L k=0
 | [],_=>rfl
 | (a,w)::r,h=>by
  rw[List.any_cons,Bool.or_eq_false_iff] at h
  rw[mgt,if_neg (of_decide_eq_false h.1),zw k r h.2]
theorem EZ {kf:α->AV}(hk:∀a b,fW (kf a) (kf b)=some (decide (a=b)))(k:α)(x:Int):∀L:List (α×Int),uj (kf k) (.int .i64 x) (mcl kf L)=some (mcl kf (mst k x L))
 | []=>rfl
 | (a,w)::r=>by
  rw[mcl,List.map_cons,uj,hk,mst]
  by_cases e:k=a
  ·subst e;simp[mcl]
  ·have ih:=EZ hk k x r
   rw[mcl] at ih
   simp only[decide_eq_false e,if_neg e,ih]
   rfl
theorem FD {kf:α->AV}(hk:∀a b,fW (kf a) (kf b)=some (decide (a=b))){kk:KeyKind}{m k:T->AV}{t:T}{g:G}{id:Nat}{a:α}{L:List (α×Int)}(h1:m t=.hmap id)(h2:k t=kf a)(ho:iL kk (kf a)=true)(hg:g.h.get id=.map (mcl kf L)) :
  bC kk (.int .i64 0) false m k t g=.val (.int .i64 (mgt L a)):=by
 unfold bC
 rw[h1,h2,ho]
 simp only[G.get_eq,hg,CB hk]
 cases h:L.any (fun p=>decide (a=p.1)) with
 | true=>simp
 | false=>simp[zw a L h]
theorem Fj {kf:α->AV}(hk:∀a b,fW (kf a) (kf b)=some (decide (a=b))){kk:KeyKind}{m k x:T->AV}{t:T}{g:G}{id:Nat}{a:α}{v:Int}{L:List (α×Int)}(h1:m t=.hmap id)(h2:k t=kf a)(h3:x t=.int .i64 v)(ho:iL kk (kf a)=true)(hg:g.h.get id=.map (mcl kf L)) :
  bg kk m k x t g=.upd .undef (g.put id (.map (mcl kf (mst a v L)))):=by
 unfold bg
 rw[h1,h2,h3,ho]
 simp only[G.get_eq,hg,EZ hk]
end
def ik (a:Int):AV:=.int .i64 a
theorem Jl (a b:Int):fW (ik a) (ik b)=some (decide (a=b)):=by
 show some (Bu a b)=_
 rw[pH]
theorem G9 (d:Nat)(rd:Option Nat)(t:T)(g:G):(SO.raw (.makeMap tII none)).run C0 d rd t g=.upd (.hmap g.nx) (g.new (.map [])):=by kernel_rfl
theorem Ay {d:Nat}{rd:Option Nat}{t:T}{g:G}{a b id:Nat}{k:Int}{L:List (Int×Int)}{op:Op}(hr:(SO.raw op).run C0 d rd t g=bC (.one (.int .i64)) (.int .i64 0) false (fun t=>tat t a) (fun t=>tat t b) t g)(h1:tat t a=.hmap id)(h2:tat t b=.int .i64 k)(hg:g.h.get id=.map (mcl ik L)):(SO.raw op).run C0 d rd t g=.val (.int .i64 (mgt L k)):=by
 rw[hr];exact FD Jl h1 h2 rfl hg
theorem Bd {d:Nat}{rd:Option Nat}{t:T}{g:G}{a b c id:Nat}{k x:Int}{L:List (Int×Int)}{op:Op}(hr:(SO.raw op).run C0 d rd t g=bg (.one (.int .i64)) (fun t=>tat t a) (fun t=>tat t b) (fun t=>tat t c) t g)(h1:tat t a=.hmap id)(h2:tat t b=.int .i64 k)(h3:tat t c=.int .i64 x)(hg:g.h.get id=.map (mcl ik L)):(SO.raw op).run C0 d rd t g=.upd .undef (g.put id (.map (mcl ik (mst k x L)))):=by
 rw[hr];exact Fj Jl h1 h2 h3 rfl hg
theorem uC {C:Cfg}{ty kt et a b:Nat}{z:AV}{ok:Bool}(hu:C.P.underlying ty=some (.map kt et))(hz:o7 C.P et=some z)(d:Nat)(rd:Option Nat)(t:T)(g:G):(SO.raw (.lookup ty (.tmp a) (.tmp b) ok)).run C d rd t g=bC (bE C.P kt) z ok (fun t=>tat t a) (fun t=>tat t b) t g:=by
 obtain ⟨s1,e1,r1⟩:=aO (C:=C) (x:=.tmp a) (o:=.t a) rfl
 obtain ⟨s2,e2,r2⟩:=aO (C:=C) (x:=.tmp b) (o:=.t b) rfl
 show (bM C _).run (I C) d rd t g=_
 rw[bi (s:=⟨bC (bE C.P kt) z ok s1.run s2.run⟩) rfl (by simp only[bI,e1,e2,hu,hz])]
 rw[show s1.run=fun t=>tat t a from funext r1,show s2.run=fun t=>tat t b from funext r2]
theorem Aq {C:Cfg}{ty kt et a b c:Nat}(hu:C.P.underlying ty=some (.map kt et))(d:Nat)(rd:Option Nat)(t:T)(g:G):(SO.raw (.mapUpdate ty (.tmp a) (.tmp b) (.tmp c))).run C d rd t g=bg (bE C.P kt) (fun t=>tat t a) (fun t=>tat t b) (fun t=>tat t c) t g:=by
 obtain ⟨s1,e1,r1⟩:=aO (C:=C) (x:=.tmp a) (o:=.t a) rfl
 obtain ⟨s2,e2,r2⟩:=aO (C:=C) (x:=.tmp b) (o:=.t b) rfl
 obtain ⟨s3,e3,r3⟩:=aO (C:=C) (x:=.tmp c) (o:=.t c) rfl
 show (bM C _).run (I C) d rd t g=_
 rw[bi (s:=⟨bg (bE C.P kt) s1.run s2.run s3.run⟩) rfl (by simp only[bI,e1,e2,e3,hu])]
 rw[show s1.run=fun t=>tat t a from funext r1,show s2.run=fun t=>tat t b from funext r2,show s3.run=fun t=>tat t c from funext r3]
theorem wO {C:Cfg}{ty a b:Nat}(t:T)(g:G):SO.foot C t g (.raw (.lookup ty (.tmp a) (.tmp b) false))=⟨[],(ae (tat t a)).map (·,ty),[],false⟩:=by
 obtain ⟨s1,e1,r1⟩:=aO (C:=C) (x:=.tmp a) (o:=.t a) rfl
 show (aE C _).run t g=_
 simp only[aE,e1,r1]
 rfl
theorem Ed {C:Cfg}{ty a b c:Nat}(t:T)(g:G):SO.foot C t g (.raw (.mapUpdate ty (.tmp a) (.tmp b) (.tmp c)))=am (ae (tat t a)):=by
 obtain ⟨s1,e1,r1⟩:=aO (C:=C) (x:=.tmp a) (o:=.t a) rfl
 show (aE C _).run t g=_
 simp only[aE,e1,r1]
 rfl
theorem Hq:bE C0.P 3=.one (.int .i64):=by kernel_rfl
theorem GV:C0.P.underlying tII=some (.map 3 3):=by kernel_rfl
theorem KQ:o7 C0.P 3=some (.int .i64 0):=by kernel_rfl
theorem Cb {d:Nat}{rd:Option Nat}{t:T}{g:G}{a b id:Nat}{k:Int}{L:List (Int×Int)}(h1:tat t a=.hmap id)(h2:tat t b=.int .i64 k)(hg:g.h.get id=.map (mcl ik L)):(SO.raw (.lookup tII (.tmp a) (.tmp b) false)).run C0 d rd t g=.val (.int .i64 (mgt L k)) :=
 Ay (by rw[uC GV KQ,Hq]) h1 h2 hg
theorem Km {d:Nat}{rd:Option Nat}{t:T}{g:G}{a b c id:Nat}{k x:Int}{L:List (Int×Int)}(h1:tat t a=.hmap id)(h2:tat t b=.int .i64 k)(h3:tat t c=.int .i64 x)(hg:g.h.get id=.map (mcl ik L)):(SO.raw (.mapUpdate tII (.tmp a) (.tmp b) (.tmp c))).run C0 d rd t g=.upd .undef (g.put id (.map (mcl ik (mst k x L)))) :=
 Bd (by rw[Aq GV,Hq]) h1 h2 h3 hg
end
end Hx
end
section
namespace Hx
open Go
noncomputable section
def S.a7 (s j:Nat):List Int:=((List.range j).filter fun v=>s.testBit v).map fun v:Nat=>(v:Int)
theorem uI (s j:Nat):S.a7 s (j+1)=S.a7 s j++if s.testBit j then [(j:Int)] else []:=by
 rw[S.a7,List.range_succ,List.filter_append,List.map_append]
 congr 1
 cases hb:s.testBit j<;>simp[List.filter,hb]
theorem G6 {s j:Nat}:∀y∈S.a7 s j,0<=y/\y<j:=fun y hy=>by
 obtain ⟨v,hv,rfl⟩:=List.mem_map.1 hy
 have:=List.mem_range.1 (List.mem_filter.1 hv).1
 omega
def S.ay (n:Net)(vals:List Int)(s j:Nat):Int:=S.an (S.af (S.aa n) (S.a7 s j)) (S.af vals (S.a7 s j))
theorem sB {n:Net}{vals:List Int}{s j:Nat}:S.ay n vals s (j+1)=if s.testBit j then S.ay n vals s j*((S.aa n)[j]?.getD 0)+vals[j]?.getD 0 else S.ay n vals s j:=by
 rw[S.ay,uI,cw,cw,nh _ _ (by simp[kw])]
 cases s.testBit j with
 | true=>simp[S.af,S.an,S.ae,S.ay]
 | false=>simp[S.af,S.an,S.ae,S.ay]
theorem xk (s:Nat):∀j,(S.a7 s j).length<=j
 | 0=>by simp[S.a7]
 | j+1=>by
  have:=xk s j
  rw[uI,List.length_append]
  split<;>simp<;>omega
theorem ur {n:Net}(h:NR n){vals:List Int}(hv:InC (S.aa n) vals){s j:Nat}(hj:j<=n.nodes.length):0<=S.ay n vals s j/\S.ay n vals s j<65536:=by
 have hin:∀p∈S.a7 s j,0<=p/\p<(S.aa n).length:=fun p hp=>by have:=G6 p hp;rw[aM];omega
 have h1:=dH (ba h.cs hin) (fR hv hin)
 have h2:=bX (l:=S.af (S.aa n) (S.a7 s j)) (ba h.cs hin)
 have h3:=dG (a:=(S.af (S.aa n) (S.a7 s j)).length) (b:=8) (by rw[kw];have:=xk s j;have:=h.l2;omega)
 have h4:(4:Int) ^ 8=65536:=by decide
 unfold S.ay
 omega
theorem BK {s v:Nat}:decide (((s / 2 ^ v &&& 1:Nat):Int)=1)=s.testBit v:=by
 rw[Nat.and_one_is_mod,Nat.testBit_eq_decide_div_mod_eq]
 rw[Bool.eq_iff_iff,decide_eq_true_iff,decide_eq_true_iff]
 omega
theorem wF {d kk s:Nat}{P:Nat->Prop}{g:G}{v w:AV}{n:Net}{y:QnM}{vals:List Int}(hd:0<d)(hr:NR n)(hm:Agg y NoP 0 g.h v)(hq:QnOk n y)(hv:SlR P kk g.h vals w)(hc:InC (S.aa n) vals)(hs:s<18446744073709551616) :
  aA C0 d N.ak [v,w,.int .u64 (s:Int)] g=.val (.int .i64 (S.ay n vals s n.nodes.length)):=by
 have e0:=gU d hm
 obtain ⟨cs,rfl,hcs⟩:=hm
 obtain ⟨b,fl,S_,rfl,hN,hfl,hS⟩:=qV.1 hcs
 have hN:SlR NoP 0 .nil y.1.nodes b:=hN.tree (Nat.le_refl 0)
 rw[hq.net] at hN
 obtain ⟨w',e2,hw'⟩:=jM hv d
 have hgr:y.1.grain=n.grain:=by rw[hq.net]
 obtain ⟨rows,r1,r2,r3,r4⟩:=hN.all
 have r1:∀h',af h' 3 b=some rows:=r1
 have rv:=fun h=>(hw' h).ints
 have lv:∀g:G,gT .slice w' g=.val (.int .i64 (vals.length:Int)):=fun g=>by rw[jI (rv g.h),List.length_map]
 have hvl:=hc.len
 rw[aM] at hvl
 have hl8:=hr.l2
 rw[j_]
 refine np lL (xs:=[.agg [.int .i64 y.1.grain,b,fl,S_],w',.int .u64 (s:Int)]) (by simp only[aG,e0,e2,dT]) (by simp[cR]) hd ?_
 rw[hgr]
 simp only[sz,simprocAttr,cR,fe,lv]
 simp only[d5,dY]
 refine aS (m:=n.nodes.length) (by omega) (fun k t df g=>df=[]/\St t [(2,.int .u64 (s:Int)),(3,.hptr 0 0 0 0),(10,w'),(7,.int .i64 (S.ay n vals s k))]/\g.h.get 0=.cells 4 [[.int .i64 n.grain,b,fl,S_]] 0 false false) ⟨rfl,by simp[St,sx,S.ay,S.a7,S.af,S.an],by simp[sx]⟩ (by simp[sx]) (by simp[sx,hvl]) (by decide)
  (by rintro j t df g v s' (rfl | rfl | rfl) ⟨a1,⟨b1,b2,b3,b4,-⟩,c1⟩<;>exact ⟨a1,by simp[St,sx,b1,b2,b3,b4],c1⟩) ?_ ?_
 ·rintro k t df g hk ⟨rfl,⟨h2,h3,h10,h7,-⟩,g0⟩ h12 h11
  obtain ⟨x,hx,-,-⟩:=aw hk
  obtain ⟨row,q1,q2⟩:=r3 k x hx
  obtain ⟨fa,fb,rfl,-⟩:=eN.1 q2
  have hlt:k<rows.length:=by omega
  have hry:=r4 (by omega)
  have u1:k<(vals.map ci).length:=by simp;omega
  have u2:(vals.map ci)[k]?=some (ci (vals[k]?.getD 0)):=by rw[List.getElem?_map,List.getElem?_eq_getElem (by omega)];rfl
  have h2n:s / 2 ^ k<18446744073709551616:=Nat.lt_of_le_of_lt (Nat.div_le_self _ _) hs
  have ha:bA .and (.int .u64 ((s / 2 ^ k:Nat):Int)) (.int .u64 1)=.val (.int .u64 ((s / 2 ^ k &&& 1:Nat):Int)):=dm (s / 2 ^ k) 1 h2n (by decide)
  have hn:=sB (n:=n) (vals:=vals) (s:=s) (j:=k)
  have hcx:(S.aa n)[k]?.getD 0=x.card:=by simp[S.aa,hx]
  rw[hcx] at hn
  have hb0:=ur hr hc (s:=s) (j:=k) (by omega)
  have hb1:=ur hr hc (s:=s) (j:=k+1) (by omega)
  have hcard:=hr.card x (List.mem_of_getElem? hx)
  simp only[sz,simprocAttr,h2,h10,h12,rv,u1,u2,ci,bJ _ _ _ hs,ha,BK]
  cases hbt:s.testBit k with
  | true =>
   rw[hbt,if_pos rfl] at hn
   have hp:0<=S.ay n vals s k*x.card/\S.ay n vals s k*x.card<=65536*4:=⟨Int.mul_nonneg hb0.1 (by omega),Int.mul_le_mul (by omega) hcard.2 (by omega) (by omega)⟩
   have w1:IntKind.wrap .i64 (S.ay n vals s k*x.card)=S.ay n vals s k*x.card:=aH (by omega) (by omega)
   have w2:IntKind.wrap .i64 (S.ay n vals s k*x.card+vals[k]?.getD 0)=S.ay n vals s (k+1):=by rw[<-hn,aH (by omega) (by omega)]
   simp only[sz,simprocAttr,h3,h7,g0,r1,hlt,q1,hry,w1,w2]
   exact ⟨by simp[St,sx,h2,h3,h10],h12,h11⟩
  | false =>
   rw[hbt,if_neg (by simp)] at hn
   simp only[sx,sy,↓reduceIte,Nat.reduceEqDiff]
   exact ⟨⟨by simp[St,sx,h2,h3,h10,h7,hn],g0⟩,h12,h11⟩
 ·rintro t df g ⟨rfl,⟨h2,h3,h10,h7,-⟩,g0⟩
  simp only[sz,simprocAttr,eA,h7]
theorem Ag {n:Net}(h:NR n){a b:List Int}(ha:InC (S.aa n) a)(hb:InC (S.aa n) b)(s:Nat):∀j,j<=n.nodes.length->(S.ay n a s j=S.ay n b s j↔∀v,v<j->s.testBit v=true->a[v]?.getD 0=b[v]?.getD 0)
 | 0,_=>by simp[S.ay,S.a7,S.af,S.an]
 | j+1,hj=>by
  have ih:=Ag h ha hb s j (by omega)
  rw[sB,sB]
  cases hs:s.testBit j with
  | false =>
   simp only[Bool.false_eq_true,if_false]
   rw[ih]
   constructor
   ·intro hh v hv hb'
    by_cases e:v=j
    ·subst e;rw[hs] at hb';cases hb'
    ·exact hh v (by omega) hb'
   ·exact fun hh v hv hb'=>hh v (by omega) hb'
  | true =>
   simp only[if_true]
   have hcl:j<(S.aa n).length:=by rw[aM];omega
   obtain ⟨c,hc⟩:∃c,(S.aa n)[j]?=some c:=⟨_,List.getElem?_eq_getElem hcl⟩
   obtain ⟨x,hx,hx1,hx2⟩:=ha.get hc
   obtain ⟨y,hy,hy1,hy2⟩:=hb.get hc
   rw[hc,hx,hy]
   simp only[Option.getD_some]
   have key:S.ay n a s j*c+x=S.ay n b s j*c+y↔S.ay n a s j=S.ay n b s j/\x=y:=by
    constructor
    ·intro e
     have e1:(S.ay n a s j*c+x) / c=S.ay n a s j:=by rw[Int.add_comm,Int.add_mul_ediv_right _ _ (by omega),Int.ediv_eq_zero_of_lt hx1 hx2,Int.zero_add]
     have e2:(S.ay n b s j*c+y) / c=S.ay n b s j:=by rw[Int.add_comm,Int.add_mul_ediv_right _ _ (by omega),Int.ediv_eq_zero_of_lt hy1 hy2,Int.zero_add]
     have e3:S.ay n a s j=S.ay n b s j:=by rw[<-e1,e,e2]
     rw[e3] at e
     exact ⟨e3,by omega⟩
    ·rintro ⟨e1,e2⟩;rw[e1,e2]
   rw[key,ih]
   constructor
   ·rintro ⟨h1,h2⟩ v hv hb'
    by_cases e:v=j
    ·subst e;rw[hx,hy];exact h2
    ·exact h1 v (by omega) hb'
   ·intro hh
    refine ⟨fun v hv hb'=>hh v (by omega) hb',?_⟩
    have:=hh j (by omega) hs
    rwa [hx,hy] at this
def S.bp (n:Net)(s:Nat)(w:Nat):Int:=S.ay n (S.aw (S.aa n) (w:Int)) s n.nodes.length
def S.a9 (n:Net)(s:Nat)(K:Int)(j:Nat):Int:=S.aO n (fun u=>decide (S.bp n s u=K)) j
def S.aM (n:Net)(s w:Nat):Int:=S.a9 n s (S.bp n s w) (S.aD n)
def S.bC (a b:List Int)(s:Nat)(j:Nat):Bool:=(List.range j).all fun v=>!s.testBit v || decide (a[v]?.getD 0=b[v]?.getD 0)
theorem IA {n:Net}(h:NR n)(s u w:Nat):S.bC (S.aw (S.aa n) (u:Int)) (S.aw (S.aa n) (w:Int)) s n.nodes.length=decide (S.bp n s u=S.bp n s w):=by
 have hin:=fun w:Nat=>jX (fun c hc=>(h.cs c hc).1) (w:Int)
 rw[Bool.eq_iff_iff,decide_eq_true_eq,S.bp,S.bp,Ag h (hin u) (hin w) s _ (Nat.le_refl _),S.bC,List.all_eq_true]
 constructor
 ·intro hh v hv hb
  have:=hh v (List.mem_range.2 hv)
  rw[hb] at this
  simpa using this
 ·intro hh v hv
  have hv:=List.mem_range.1 hv
  cases hb:s.testBit v with
  | false=>rfl
  | true=>simpa using hh v hv hb
theorem sS {n:Net}(h:NR n)(s w:Nat):0<=S.aM n s w/\S.aM n s w<=171992678400000000:=CE h h.wl.2.1
def S.aF (x:Nat):Nat:=x % 18446744073709551616
def S.aT (x y:Nat):Nat×Nat :=
 let x0:=x % 4294967296
 let x1:=x / 4294967296
 let y0:=y % 4294967296
 let y1:=y / 4294967296
 let w0:=S.aF (x0*y0)
 let t:=S.aF (S.aF (x1*y0)+w0 / 4294967296)
 let w1:=S.aF (t % 4294967296+S.aF (x0*y1))
 let w2:=t / 4294967296
 (S.aF (S.aF (S.aF (x1*y1)+w2)+w1 / 4294967296),S.aF (x*y))
theorem uy (x:Nat):S.aF x<18446744073709551616:=Nat.mod_lt _ (by decide)
theorem u7 (a b:Nat):bA .mul (.int .u64 (a:Int)) (.int .u64 (b:Int))=.val (.int .u64 (S.aF (a*b):Int)):=by
 rw[tN]
 congr 2
theorem yu (a b:Nat):bA .add (.int .u64 (a:Int)) (.int .u64 (b:Int))=.val (.int .u64 (S.aF (a+b):Int)):=by
 rw[tP]
 congr 2
theorem mE (m:Nat)(h:m<18446744073709551616):bA .and (.int .u64 (m:Int)) (.int .u64 4294967295)=.val (.int .u64 ((m % 4294967296:Nat):Int)):=by
 have:=dm m 4294967295 h (by decide)
 have e:m &&& 4294967295=m % 4294967296:=Nat.and_two_pow_sub_one_eq_mod m 32
 rw[e] at this
 exact this
theorem lS (m:Nat)(h:m<18446744073709551616):bA .shr (.int .u64 (m:Int)) (.int .u64 32)=.val (.int .u64 ((m / 4294967296:Nat):Int)):=bJ .u64 m 32 h
theorem su {d:Nat}{g:G}{x y:Nat}(hd:0<d)(hx:x<18446744073709551616)(hy:y<18446744073709551616) :
  aA C0 d N.aa [.int .u64 (x:Int),.int .u64 (y:Int)] g=.val (.tup [.int .u64 ((S.aT x y).1:Int),.int .u64 ((S.aT x y).2:Int)]):=by
 have key:∃r,aA C0 d N.aa [.int .u64 (x:Int),.int .u64 (y:Int)] g=.val r/\rA (One (S.aT x y).1) (One (S.aT x y).2) NoP 0 .nil r:=by
  rw[jn]
  refine bD lG (xs:=[.int .u64 (x:Int),.int .u64 (y:Int)]) rfl (by simp[cX]) (eI (m:=1) (bc _) (bc _) (by decide) (by decide)) (by decide) hd ?_
  have nx:=mE x hx
  have ny:=mE y hy
  have sx':=lS x hx
  have sy':=lS y hy
  have m5:=u7 x y
  unfold S.aT
  simp only
  generalize x % 4294967296=x0 at *
  generalize x / 4294967296=x1 at *
  generalize y % 4294967296=y0 at *
  generalize y / 4294967296=y1 at *
  have m1:=u7 x0 y0
  have m2:=u7 x1 y0
  have m3:=u7 x0 y1
  have m4:=u7 x1 y1
  have s1:=lS (S.aF (x0*y0)) (uy _)
  have a1:=yu (S.aF (x1*y0)) (S.aF (x0*y0) / 4294967296)
  generalize S.aF (x0*y0) / 4294967296=w0 at *
  have ht:=uy (S.aF (x1*y0)+w0)
  generalize S.aF (S.aF (x1*y0)+w0)=tt at *
  have n1:=mE tt ht
  have s2:=lS tt ht
  have a2:=yu (tt % 4294967296) (S.aF (x0*y1))
  have a3:=yu (S.aF (x1*y1)) (tt / 4294967296)
  have hw:=uy (tt % 4294967296+S.aF (x0*y1))
  generalize S.aF (tt % 4294967296+S.aF (x0*y1))=w1 at *
  have s3:=lS w1 hw
  have a4:=yu (S.aF (S.aF (x1*y1)+tt / 4294967296)) (w1 / 4294967296)
  simp only[cX,sx,SO.run,↓reduceIte,Nat.reduceEqDiff,nx,ny,sx',sy',m1,m2,m3,m4,m5,s1,s2,s3,n1,a1,a2,a3,a4,jy]
  exact ⟨NoP,_,_,rfl,jU.2 ⟨rfl,uy _⟩,jU.2 ⟨rfl,uy _⟩⟩
 obtain ⟨r,hr,a,c,rfl,ha,hc⟩:=key
 have ha:=jU.1 ha
 have hc:=jU.1 hc
 rw[hr]
 rw[List.cons.inj ha.1 |>.1,List.cons.inj hc.1 |>.1]
theorem vp:∀{cs:List Int} {P:Nat->Prop} {g h:List Int->Int},(∀c∈cs,0<=c)->(∀vs v (x:Int),InC cs vs->¬P v->g (vs.set v x)=g vs)->(∀vs v (x:Int),InC cs vs->P v->h (vs.set v x)=h vs) ->
  S.ah cs (fun vs=>g vs*h vs)*S.ah cs (fun _=>1)=S.ah cs g*S.ah cs h
 | [],P,g,h,_,_,_=>by simp[S.ah]
 | c::cs,P,g,h,hc,hg,hh=>by
  have hc0:=hc c (by simp)
  obtain ⟨k,rfl⟩:=Int.eq_ofNat_of_zero_le hc0
  by_cases hk:k=0
  ·subst hk;simp[S.ah,S.sm]
  have hin:∀(i:Nat) vs,i<k->InC cs vs->InC ((k:Int)::cs) ((i:Int)::vs):=fun i vs hi hv=>⟨⟨by omega,by omega⟩,hv⟩
  have ih:∀i,i<k->S.ah cs (fun vs=>g ((i:Int)::vs)*h ((i:Int)::vs))*S.ah cs (fun _=>1)=S.ah cs (fun vs=>g ((i:Int)::vs))*S.ah cs (fun vs=>h ((i:Int)::vs)):=fun i hi =>
   vp (P:=fun v=>P (v+1)) (g:=fun vs=>g ((i:Int)::vs)) (h:=fun vs=>h ((i:Int)::vs)) (fun c hc'=>hc c (by simp[hc']))
    (fun vs v x hv hp=>hg ((i:Int)::vs) (v+1) x (hin i vs hi hv) hp) (fun vs v x hv hp=>hh ((i:Int)::vs) (v+1) x (hin i vs hi hv) hp)
  have e1:S.ah ((k:Int)::cs) (fun _=>1)=k*S.ah cs (fun _=>1):=by rw[S.ah,kT,Int.toNat_natCast]
  rw[e1]
  by_cases h0:P 0
  ·have eh:∀i,i<k->S.ah cs (fun vs=>h ((i:Int)::vs))=S.ah cs (fun vs=>h ((0:Int)::vs)):=fun i hi=>eO fun vs hv=>by
    have:=hh ((0:Int)::vs) 0 (i:Int) (hin 0 vs (by omega) hv) h0
    exact this
   have eH:S.ah ((k:Int)::cs) h=k*S.ah cs (fun vs=>h ((0:Int)::vs)):=by
    rw[S.ah,Int.toNat_natCast,bL (G:=fun _=>S.ah cs fun vs=>h ((0:Int)::vs)) eh,kT]
   rw[eH,S.ah,S.ah,Int.toNat_natCast]
   obtain ⟨H0,hH0⟩:∃H0,H0=S.ah cs (fun vs=>h ((0:Int)::vs)):=⟨_,rfl⟩
   obtain ⟨N,hN⟩:∃N,N=S.ah cs (fun _=>1):=⟨_,rfl⟩
   rw[<-hH0,<-hN]
   rw[<-hN] at ih
   have key:N*S.sm (fun x=>S.ah cs fun vs=>g ((x:Int)::vs)*h ((x:Int)::vs)) k=H0*S.sm (fun x=>S.ah cs fun vs=>g ((x:Int)::vs)) k:=by
    rw[<-nk,<-nk]
    refine bL fun i hi=>?_
    have:=ih i hi
    rw[eh i hi,<-hH0] at this
    rw[Int.mul_comm,this,Int.mul_comm]
   generalize S.sm (fun x=>S.ah cs fun vs=>g ((x:Int)::vs)*h ((x:Int)::vs)) k=A at *
   generalize S.sm (fun x=>S.ah cs fun vs=>g ((x:Int)::vs)) k=B at *
   have:A*((k:Int)*N)=k*(N*A):=by ac_rfl
   rw[this,key];ac_rfl
  ·have eg:∀i,i<k->S.ah cs (fun vs=>g ((i:Int)::vs))=S.ah cs (fun vs=>g ((0:Int)::vs)):=fun i hi=>eO fun vs hv=>by
    have:=hg ((0:Int)::vs) 0 (i:Int) (hin 0 vs (by omega) hv) h0
    exact this
   have eG:S.ah ((k:Int)::cs) g=k*S.ah cs (fun vs=>g ((0:Int)::vs)):=by
    rw[S.ah,Int.toNat_natCast,bL (G:=fun _=>S.ah cs fun vs=>g ((0:Int)::vs)) eg,kT]
   rw[eG,S.ah,S.ah,Int.toNat_natCast]
   obtain ⟨G0,hG0⟩:∃G0,G0=S.ah cs (fun vs=>g ((0:Int)::vs)):=⟨_,rfl⟩
   obtain ⟨N,hN⟩:∃N,N=S.ah cs (fun _=>1):=⟨_,rfl⟩
   rw[<-hG0,<-hN]
   rw[<-hN] at ih
   have key:N*S.sm (fun x=>S.ah cs fun vs=>g ((x:Int)::vs)*h ((x:Int)::vs)) k=G0*S.sm (fun x=>S.ah cs fun vs=>h ((x:Int)::vs)) k:=by
    rw[<-nk,<-nk]
    refine bL fun i hi=>?_
    have:=ih i hi
    rw[eg i hi,<-hG0] at this
    rw[Int.mul_comm,this]
   generalize S.sm (fun x=>S.ah cs fun vs=>g ((x:Int)::vs)*h ((x:Int)::vs)) k=A at *
   generalize S.sm (fun x=>S.ah cs fun vs=>h ((x:Int)::vs)) k=B at *
   have:A*((k:Int)*N)=k*(N*A):=by ac_rfl
   rw[this,key];ac_rfl
def S.dl (w vs:List Int)(v:Nat):Int:=if vs[v]?.getD 0=w[v]?.getD 0 then 1 else 0
theorem Gu (w vs:List Int)(s:Nat):∀n:Nat,(if S.bC vs w s n then (1:Int) else 0)=S.pT s n (S.dl w vs)
 | 0=>rfl
 | n+1=>by
  rw[dO,<-Gu w vs s n,S.bC,jO,<-S.bC,S.dl]
  cases S.bC vs w s n<;>cases s.testBit n<;>by_cases h:vs[n]?.getD 0=w[n]?.getD 0<;>simp[h]
theorem Dt {n:Net}(hr:NR n)(s w:Nat):S.aM n s w=S.ah (S.aa n) (fun vs=>S.pT s n.nodes.length (S.dl (S.aw (S.aa n) (w:Int)) vs)*S.aJ n vs):=by
 rw[S.aM,S.a9,xy]
 have:=qt (cs:=S.aa n) (pre:=[]) (pv:=[]) (fun vs=>S.pT s n.nodes.length (S.dl (S.aw (S.aa n) (w:Int)) vs)*S.aJ n vs) (fun c hc=>(hr.cs c (by simpa using hc)).1) trivial
 simp only[List.nil_append,S.an,Int.zero_mul,Int.zero_add] at this
 rw[<-this,S.aD]
 refine bL fun j _=>?_
 rw[<-Gu,<-IA hr s j w]
 cases S.bC (S.aw (S.aa n) (j:Int)) (S.aw (S.aa n) (w:Int)) s n.nodes.length<;>simp
theorem Cs {s t:Nat}(h:s &&& t=0)(f:Nat->Int):∀n:Nat,S.pT (s ||| t) n f=S.pT s n f*S.pT t n f
 | 0=>rfl
 | n+1=>by
  rw[dO,dO,dO,Cs h f n,Nat.testBit_or]
  have hb:(s.testBit n&&t.testBit n)=false:=by rw[<-Nat.testBit_and,h,Nat.zero_testBit]
  cases hs:s.testBit n<;>cases ht:t.testBit n
  ·simp
  ·simp;ac_rfl
  ·simp;ac_rfl
  ·rw[hs,ht] at hb;cases hb
theorem GO {T:Nat}{f:Nat->Int}:∀{n:Nat},(∀u,u<n->T.testBit u=true->0<f u)->0<S.pT T n f
 | 0,_=>by show (0:Int)<1;decide
 | n+1,h=>by
  rw[dO]
  refine Int.mul_pos (GO fun u hu hb=>h u (by omega) hb) ?_
  split
  ·rename_i hb;exact h n (by omega) hb
  ·decide
theorem BH {T:Nat}{f:Nat->Int}{u:Nat}(hb:T.testBit u=true)(h0:f u=0):∀{n:Nat},u<n->S.pT T n f=0
 | 0,h=>absurd h (Nat.not_lt_zero u)
 | n+1,h=>by
  rw[dO]
  by_cases e:u=n
  ·subst e;rw[hb,if_pos rfl,h0,Int.mul_zero]
  ·rw[BH hb h0 (n:=n) (by omega),Int.zero_mul]
end
end Hx
end
section
namespace Hx
inductive Ds (E:Nat->Nat->Prop):Nat->Nat->Prop
 | rf (v:Nat):Ds E v v
 | st {u v w:Nat}:E u v->Ds E v w->Ds E u w
def An (E:Nat->Nat->Prop)(Z:Nat->Prop)(v:Nat):Prop:=∃z,Z z/\Ds E v z
theorem An.up {E:Nat->Nat->Prop}{Z:Nat->Prop}{u v:Nat}(e:E u v)(h:An E Z v):An E Z u:=by
 obtain ⟨z,hz,hd⟩:=h
 exact ⟨z,hz,.st e hd⟩
theorem An.of {E:Nat->Nat->Prop}{Z:Nat->Prop}{v:Nat}(h:Z v):An E Z v:=⟨v,h,.rf v⟩
theorem An.mono {E:Nat->Nat->Prop}{Z Z':Nat->Prop}(hz:∀v,Z v->Z' v){v:Nat}(h:An E Z v):An E Z' v:=by
 obtain ⟨z,h1,h2⟩:=h
 exact ⟨z,hz z h1,h2⟩
def okP (E:Nat->Nat->Prop)(Z:Nat->Prop)(v:Nat):Bool->Bool->Prop
 | true,true=>An E Z v
 | _,_=>¬Z v
inductive Rs (E:Nat->Nat->Prop) (Z X:Nat->Prop):Nat->Bool->Prop
 | st {x:Nat}:X x->Rs E Z X x false
 | dn {v c:Nat} {d:Bool}:Rs E Z X v d->okP E Z v d false->E v c->Rs E Z X c true
 | up {v p:Nat} {d:Bool}:Rs E Z X v d->okP E Z v d true->E p v->Rs E Z X p false
def Re (E:Nat->Nat->Prop)(Z X:Nat->Prop)(y:Nat):Prop:=(∃d,Rs E Z X y d)/\¬Z y
inductive Con (E:Nat->Nat->Prop) (Z:Nat->Prop):Nat->Bool->Nat->Bool->Prop
 | f {u v:Nat}:E u v->Con E Z u false v true
 | b {u v:Nat}:E v u->Con E Z u true v false
 | tf {x v w:Nat} {a b:Bool}:Con E Z x a v b->okP E Z v b false->E v w->Con E Z x a w true
 | tb {x v w:Nat} {a b:Bool}:Con E Z x a v b->okP E Z v b true->E w v->Con E Z x a w false
end Hx
end
section
namespace Hx
open Classical
def opT (E:Nat->Nat->Prop)(Z:Nat->Prop)(v:Nat)(r:List Nat)(w:Nat):Prop :=
 match r with
 | []=>True
 | u::_=>(E u v/\E w v->An E Z v)/\(¬(E u v/\E w v)->¬Z v)
inductive Tl (E:Nat->Nat->Prop) (Z:Nat->Prop) (x:Nat):List Nat->Prop
 | one:Tl E Z x [x]
 | ext {v w:Nat} {r:List Nat}:Tl E Z x (v::r)->E v w\/E w v->w ∉ v::r->opT E Z v r w->Tl E Z x (w::v::r)
end Hx
end
