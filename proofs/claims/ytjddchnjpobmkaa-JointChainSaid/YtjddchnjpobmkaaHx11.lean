/- A part of the proof: an interpreter over abstract values, shown right against the model, and what the functions of the chapter compute on it. -/
import Derived.Test.YtjddchnjpobmkaaHx10
set_option linter.unusedVariables false
set_option linter.unusedSimpArgs false
set_option linter.unnecessarySimpa false
section
namespace Hx
open Go
noncomputable section
def S.bw (n:Net)(l:List Factor):Prop:=∀(i:Nat) (x:Node),i<l.length->n.nodes[i]?=some x->∃p,p<=x.parents.length/\l[i]?=some (S.aL n i x p)
def IP (n:Net):VS:=fun P k h v=>∃l:List Factor,((S.aG n=true->l.length=n.nodes.length)/\S.bw n l)/\mN (One l) (One (if S.aG n then (0:Int) else 50)) P k h v
structure FasJ (n:Net) (W b cv sv oz:AV) (j:Nat) (t:T) (g:G):Prop where
 st:St t [(4,.hptr 1 0 0 0),(6,W)]
 hg:g.h.get 1=.cells 5 [[.int .i64 n.grain,b,cv,sv,oz]] 0 false false
 hW:∃(rows:List (List AV)) (l:List Factor),Own g 2 W 3 rows/\rows.length=n.nodes.length/\l.length=j/\All2 (Rp.rp NoP 0 .nil) l (rows.take j)/\S.bw n l/\∀i,j<=i->i<n.nodes.length->rows[i]?=some [.nils,.nils,.nils]
theorem Hm {d:Nat}{g:G}{v:AV}{n:Net}(hd:0<d)(hm:Agg n NoP 0 g.h v):∃r,ac C0 d N.bi [v] g=.val r/\IP n NoP 0 .nil r:=by
 obtain ⟨b,rows,rfl,e1,hm',hN,r1,r2,r3,r4⟩:=jj d hm
 rw[qW]
 refine aR uc (xs:=[.agg [.int .i64 n.grain,b]]) (by simp only[aE,e1]) (by simp[jX]) (jB fun o=>bz (m:=2) (aM _) (aM _) (by decide) (by decide)) (by decide) hd ?_
 simp only[sz,simprocAttr,jX,mD]
 obtain ⟨z,ez,hz⟩:=wU (d:=d+1) (g:=G.empty.new (.cells 2 [[.int .i64 n.grain,b]] 0 false false)) (Nat.succ_pos d) (n:=n) (v:=.agg [.int .i64 n.grain,b]) (hm' _)
 rcases nm hz with ⟨hn,cs,rfl,hcs⟩ | ⟨hn,b',cv,sv,oz,o,rfl,hb,hcv,hsv,hoz⟩
 ·obtain ⟨a1,a2,a3,a4,a5,rfl⟩:∃a1 a2 a3 a4 a5,cs=[a1,a2,a3,a4,a5]:=by
   match cs,hcs with
   | [a1,a2,a3,a4,a5],_=>exact ⟨a1,a2,a3,a4,a5,rfl⟩
  simp only[sz,simprocAttr,ez,show ¬((50:Int)=0) from by decide]
  refine ⟨NoP,[],⟨fun h=>(by rw[hn] at h;cases h),fun i x hi=>(by simp at hi)⟩,_,_,rfl,⟨_,rfl,⟨by show 0<9223372036854775808;decide,rfl⟩⟩,?_⟩
  rw[hn];exact aC.2 rfl
 ·have hr:=cO.1 hn
  have hl8:=hr.l2
  simp only[sz,simprocAttr,ez,hb.len]
  refine sS (b:=2) (n:=n.nodes.length) (by unfold be;omega) (by unfold be;omega) (by simp) fun W g1 hW n1 f1 vW=>?_
  have k1:g1.h.get 1=.cells 5 [[.int .i64 n.grain,b',cv,sv,oz]] 0 false false:=by rw[f1 1 (by simp)];simp[H.get_put]
  have hWl:∀(g:G) (rows:List (List AV)),rows.length=n.nodes.length->Own g 2 W 3 rows->iA .slice W g=.val (.int .i64 (n.nodes.length:Int)):=fun g rows h1 h=>by
   rcases h with ⟨rfl,e⟩ | ⟨id,ep,lo,-,-,rfl,-⟩
   ·cases vW
   ·rw[h1];rfl
  have hlW:=hWl g1 _ (by simp) hW
  have hryW:qH W=true:=by
   rcases hW with ⟨rfl,e⟩ | ⟨id,ep,lo,-,-,rfl,-⟩
   ·cases vW
   ·rfl
  simp only[sz,simprocAttr,hlW]
  simp only[lF]
  refine bf (m:=n.nodes.length) (by omega) (fun j t df g=>df=[]/\FasJ n W b' cv sv oz j t g) ⟨rfl,by simp[St,sx],k1,_,[],hW,by simp,rfl,trivial,fun i x hi=>(by simp at hi),fun i _ hi=>by simp[hi]⟩ (by simp[sx]) (by simp[sx]) (by decide)
   (by rintro j t df g v s (rfl | rfl | rfl) ⟨a1,⟨b1,b2,-⟩,c1,c2⟩<;>exact ⟨a1,by simp[St,sx,b1,b2],c1,c2⟩) ?_ ?_
  ·rintro j t df g hj ⟨rfl,⟨h4,h6,-⟩,hg,rows',l,hW,hrl,hll,hal,hfs,hnil⟩ h23 h22
   obtain ⟨x,hx,-,-⟩:=aw hj
   have hm5:Agg ((n,S.aa n,S.am n,o):NwM) NoP 0 g.h (.agg [.int .i64 n.grain,b',cv,sv,oz]):=⟨_,rfl,rC.2 ⟨b',cv,sv,oz,rfl,hb.tree (Nat.le_refl 0),hcv.tree (Nat.le_refl 0),hsv.tree (Nat.le_refl 0),hoz.tree (Nat.le_refl 0)⟩⟩
   obtain ⟨f,ef,p,hp,cs,rfl,hcs⟩:=CB (d:=d+1) (g:=g) (i:=j) (Nat.succ_pos d) hr hm5 hx
   obtain ⟨a1,a2,a3,rfl,ha1,ha2,ha3⟩:=lj.1 hcs
   have hrj:=hnil j (Nat.le_refl _) hj
   have hWr:=hW.rows
   have hjr:j<rows'.length:=by omega
   simp only[sz,simprocAttr,h23,h6,h4,hg,ef,hWr,hjr]
   refine bL (v:=W) (sz:=3) (n:=3) (i:=j) (off:=0) (x:=.agg [a1,a2,a3]) (row':=[a1,a2,a3]) hW hrj (by rfl) rfl ?_ fun g4 hW4 n4 f4=>?_
   ·rfl
   have htk:(rows'.set j [a1,a2,a3]).take (j+1)=rows'.take j++[[a1,a2,a3]]:=by
    rw[List.take_add_one,List.take_set_of_le (Nat.le_refl _),List.getElem?_set_self hjr]
    rfl
   simp only[sx,sy,↓reduceIte,Nat.reduceEqDiff]
   refine ⟨⟨by simp[St,sx,h4,h6],?_,_,l++[S.aL n j x p],hW4,by simpa using hrl,by simp[hll],?_,?_,fun i h1 h2=>by rw[List.getElem?_set_ne (by omega),hnil i (by omega) h2]⟩,h23,h22⟩
   ·rw[f4 1 fun e=>by have:=(hW.lt e).1;omega,hg]
   ·rw[htk]
    exact hal.append ⟨lj.2 ⟨a1,a2,a3,rfl,ha1,ha2,ha3⟩,trivial⟩
   ·intro i y hi hy
    by_cases hij:i<l.length
    ·rw[List.getElem?_append_left hij]
     exact hfs i y hij hy
    ·have hi:i=j:=by simp at hi;omega
     subst hi
     rw[hx] at hy
     injection hy with hy
     subst hy
     exact ⟨p,hp,by rw[List.getElem?_append_right (by omega),hll];simp⟩
  ·rintro t df g ⟨rfl,⟨h4,h6,-⟩,hg,rows',l,hW,hrl,hll,hal,hfs,hnil⟩
   rw[List.take_of_length_le (by omega)] at hal
   simp only[sz,simprocAttr,lr,h6]
   refine ⟨fun _=>True,l,⟨fun _=>hll,hfs⟩,_,_,rfl,⟨W,rfl,Own.sl (α:=Factor) hW (by omega) (hal.mono fun a b r=>Rp.tree r (Nat.le_refl 0)) fun _ _=>trivial⟩,?_⟩
   rw[hn];exact aC.2 rfl
end
end Hx
end
section
namespace Hx
open Go
abbrev QnM:Type:=Net×List Factor×List (List Int)
theorem rR {P:Nat->Prop}{k:Nat}{h:H}{x:QnM}{cs:List AV}:Rp.rp P k h x cs↔∃a b c,cs=[.int .i64 x.1.grain,a,b,c]/\SlR P k h x.1.nodes a/\SlR P k h x.2.1 b/\SlR P k h x.2.2 c:=by
 constructor
 ·rintro ⟨c1,c2,rfl,h1,c3,c4,rfl,⟨b,rfl,hb⟩,⟨c,rfl,hc⟩⟩
  obtain ⟨a,rfl,ha⟩:=jn.1 h1
  exact ⟨a,b,c,rfl,ha,hb,hc⟩
 ·rintro ⟨a,b,c,rfl,ha,hb,hc⟩
  exact ⟨[_,a],[b,c],rfl,jn.2 ⟨a,rfl,ha⟩,[b],[c],rfl,⟨b,rfl,hb⟩,⟨c,rfl,hc⟩⟩
theorem E7 {n:Net}(h:NR n){k:Nat}{x:Node}(hx:n.nodes[k]?=some x):(k:Int) ∉ x.parents:=fun hm=>by
 have hk:=(List.getElem?_eq_some_iff.1 hx).1
 have hl:=h.l2
 have h1:=qc.1 h.acyc k (by simp[S.am];exact hk)
 have h2:Par (S.am n) k=S.au x.parents:=by simp[Par,S.am,hx]
 have h3:(S.au x.parents).testBit k=true:=(sK fun y hy=>by have:=dR (h.places x (List.mem_of_getElem? hx)) y hy;omega).2 hm
 have h4:=sI (p:=S.am n) (s:=Par (S.am n) k) (S.am n).length k (by rw[h2];exact h3)
 rw[h1] at h4;cases h4
theorem CQ {l:List Int}{k:Int}(h:S.aW l k=true):l.Nodup:=by
 rw[List.Nodup,List.pairwise_iff_getElem]
 intro i j hi hj hij e
 have:=Ds h (List.getElem?_eq_getElem hi) (List.getElem?_eq_getElem hj) hij
 omega
theorem DS {n:Net}(h:NR n){k:Nat}{x:Node}(hx:n.nodes[k]?=some x)(p:Nat):(S.aw x.parents p (k:Int)).Nodup:=by
 unfold S.aw
 rw[List.perm_middle.nodup_iff,List.take_append_drop,List.nodup_cons]
 exact ⟨E7 h hx,CQ (h.places x (List.mem_of_getElem? hx))⟩
theorem tN {n:Net}(h:NR n){k:Nat}{x:Node}(hx:n.nodes[k]?=some x)(p:Nat):∀y∈S.aw x.parents p (k:Int),0<=y/\y<n.nodes.length:=fun y hy=>by
 have hk:=(List.getElem?_eq_some_iff.1 hx).1
 have hp:=dR (h.places x (List.mem_of_getElem? hx))
 simp only[S.aw,List.mem_append,List.mem_cons] at hy
 rcases hy with hy | rfl | hy
 ·exact hp y (List.mem_of_mem_take hy)
 ·omega
 ·exact hp y (List.mem_of_mem_drop hy)
theorem pJ (cs ps:List Int):(S.ac cs ps).length=ps.length:=by simp[S.ac]
theorem Do {n:Net}(h:NR n){k:Nat}{x:Node}(hx:n.nodes[k]?=some x)(p:Nat):∀c∈(S.aL n k x p).cards,1<=c/\c<=4 :=
 bu h.cs fun y hy=>by rw[aW];exact tN h hx p y hy
def S.bi (m:Nat)(f:Factor)(i:Nat)(R:List Int):Prop:=R.length=m/\∀(j:Nat) (y:Int),i<=j->f.vars[j]?=some y->R[y.toNat]?=some (S.ae (f.cards.drop (j+1)))
theorem Ae {m i:Nat}{f:Factor}{R:List Int}{y:Int}(h:S.bi m f (i+1) R)(hnd:f.vars.Nodup)(hin:∀y∈f.vars,0<=y/\y<m)(hy:f.vars[i]?=some y):S.bi m f i (R.set y.toNat (S.ae (f.cards.drop (i+1)))):=by
 refine ⟨by simp[h.1],fun j z hij hz=>?_⟩
 have hyi:=hin y (List.mem_of_getElem? hy)
 have hzi:=hin z (List.mem_of_getElem? hz)
 by_cases e:j=i
 ·subst e
  rw[hy] at hz;injection hz with hz;subst hz
  rw[List.getElem?_set_self (by rw[h.1];omega)]
 ·rw[List.getElem?_set_ne]
  ·exact h.2 j z (by omega) hz
  ·intro e2
   have e3:y=z:=by omega
   subst e3
   exact e ((List.getElem?_inj (List.getElem?_eq_some_iff.1 hz).1 hnd).1 (by rw[hz,hy]))
structure QnOk (n:Net) (y:QnM):Prop where
 net:y.1=n
 fl:y.2.1.length=n.nodes.length
 fs:S.bw n y.2.1
 sl:y.2.2.length=n.nodes.length
 st:∀(k:Nat) (f:Factor) (R:List Int),y.2.1[k]?=some f->y.2.2[k]?=some R->S.bi n.nodes.length f 0 R
def S.aI (n:Net)(ls:List (List Int)):Int:=if S.aG n then (if ls.all (S.aq n) then 0 else 2) else 50
def GM (n:Net)(ls:List (List Int)):VS:=fun P k h v=>∃y:QnM,(S.aI n ls=0->QnOk n y)/\mN (Agg y) (One (S.aI n ls)) P k h v
end Hx
end
section
namespace Hx
open Go
noncomputable section
def yG (fl:AV)(m q k:Nat):List (Nat×AV):=[(11,.hptr q 0 0 0),(2,.hptr 0 0 0 0),(4,.hptr 1 0 0 0),(45,fl),(46,.int .i64 (m:Int)),(47,.int .i64 (k:Int))]
structure AskI (fl:AV) (m q k:Nat) (g0:G) (iR:Nat) (R:AV) (f:Factor) (fb j:Nat) (t:T) (g:G):Prop where
 st:St t ((13,.hptr fb 0 0 0)::(12,.int .i64 (k:Int))::(14,.int .i64 (S.ae (f.cards.drop j)))::yG fl m q k)
 nx:g0.nx<=g.nx
 fr:∀i,i<g0.nx->i≠iR->g.h.get i=g0.h.get i
 ow:∃X:List Int,Own g 2 R 1 (X.map ci)/\S.bi m f j X
theorem Iw {d m q k fb iR:Nat}{gr:Int}{va ca wa S_ R b fl fl':AV}{f:Factor}{rowsS:List (List AV)}{Q:QT}{t:T}{g g0:G}(hva:SlR NoP 0 .nil f.vars va)(hca:SlR NoP 0 .nil f.cards ca)(hcl:f.cards.length=f.vars.length)(hvl:f.vars.length<=16)(hcb:∀c∈f.cards,1<=c/\c<=4)(hnd:f.vars.Nodup)(hin:∀y∈f.vars,0<=y/\y<m)
  (e11:g0.h.get q=.cells 4 [[.int .i64 gr,b,fl',S_]] 0 false false) (e13:g0.h.get fb=.cells 3 [[va,ca,wa]] 0 false false) (hS:Own g0 2 S_ 1 rowsS) (hk:rowsS[k]?=some [R]) (vR:vid R=some iR) (vS:vid S_≠some iR) (n1:q≠iR/\fb≠iR) (n2:q<g0.nx/\fb<g0.nx/\iR<g0.nx)
  (h0:AskI fl m q k g0 iR R f fb f.vars.length t g) (h15:tat t 15=.int .i64 ((f.vars.length:Int) - 1))
  (fin:∀t g,AskI fl m q k g0 iR R f fb 0 t g->Q (.exit 4) t [] g):wpL (wp C0 d none jh) Q t [] g:=by
 have rva:=fun h=>(hva.tree (h':=h) (Nat.le_refl 0)).ints
 have rca:=fun h=>(hca.tree (h':=h) (Nat.le_refl 0)).ints
 simp only[jh]
 refine FC (m:=f.vars.length) (by omega) (fun j t df g=>df=[]/\AskI fl m q k g0 iR R f fb j t g) ⟨rfl,h0⟩ h15 (by decide)
  (by rintro j t df g v s (rfl | rfl | rfl | rfl | rfl) ⟨a1,⟨b1,b2,b3,b4,b5,b6,b7,b8,b9,-⟩,c1,c2,c3⟩<;>exact ⟨a1,by simp[St,yG,sx,b1,b2,b3,b4,b5,b6,b7,b8,b9],c1,c2,c3⟩) ?_ ?_
 ·rintro j t df g hj ⟨rfl,⟨h13,h12,h14,h11,h2,h4,h45,h46,h47,-⟩,hnx,hfr,X,hX,hst⟩ h15
  obtain ⟨y,hy,-,hym⟩:=aw hj
  obtain ⟨hy0,hym⟩:=hin y hym
  obtain ⟨yn,rfl⟩:=Int.eq_ofNat_of_zero_le hy0
  have hcj:f.cards[j]?=some f.cards[j]:=List.getElem?_eq_getElem (by omega)
  have hcb1:=hcb _ (List.getElem_mem (show j<f.cards.length by omega))
  have hdr:f.cards.drop j=f.cards[j]::f.cards.drop (j+1):=List.drop_eq_getElem_cons (by omega)
  generalize f.cards[j]=c at hcj hcb1 hdr
  have u1:j<(f.vars.map ci).length:=by simpa using hj
  have u2:(f.vars.map ci)[j]?=some (ci (yn:Int)):=by rw[List.getElem?_map,hy];rfl
  have u3:j<(f.cards.map ci).length:=by simp;omega
  have u4:(f.cards.map ci)[j]?=some (ci c):=by rw[List.getElem?_map,hcj];rfl
  have hXl:=hst.1
  have hylt:yn<X.length:=by omega
  have u5:yn<(X.map ci).length:=by simpa using hylt
  have u6:(X.map ci)[yn]?=some (ci X[yn]):=by rw[List.getElem?_map,List.getElem?_eq_getElem hylt];rfl
  have k11:g.h.get q=.cells 4 [[.int .i64 gr,b,fl',S_]] 0 false false:=by rw[hfr q n2.1 n1.1,e11]
  have k13:g.h.get fb=.cells 3 [[va,ca,wa]] 0 false false:=by rw[hfr fb n2.2.1 n1.2,e13]
  have hS':Own g 2 S_ 1 rowsS:=hS.fr hnx fun i hi=>hfr i (hS.lt hi).2 fun e=>vS (by rw[hi,e])
  have rS:=hS'.rows
  have rX:=hX.rows
  have kl:k<rowsS.length:=(List.getElem?_eq_some_iff.1 hk).1
  have w0:S.ae (f.cards.drop j)=S.ae (f.cards.drop (j+1))*c:=by rw[hdr,cJ,Int.mul_comm]
  have hpb:=bP (l:=f.cards.drop j) fun c hc=>hcb c (List.mem_of_mem_drop hc)
  have hp4:=dM (a:=(f.cards.drop j).length) (b:=16) (by simp;omega)
  have h48:(4:Int) ^ 16=4294967296:=by decide
  have w1:IntKind.wrap .i64 (S.ae (f.cards.drop (j+1))*c)=S.ae (f.cards.drop j):=by rw[<-w0,aG (by omega) (by omega)]
  have hst':=Ae hst hnd hin hy
  rw[Int.toNat_natCast] at hst'
  simp only[sz,simprocAttr,sf,h11,h12,h13,h14,h15,k11,k13,rva,u1,u2,rS,kl,hk,rX,u5,ci]
  refine bL (v:=R) (sz:=1) (n:=1) (i:=yn) (off:=0) (x:=.int .i64 (S.ae (f.cards.drop (j+1)))) (row':=ci (S.ae (f.cards.drop (j+1)))) (hX.fr (by simp;omega) fun i _=>by simp) u6 rfl rfl rfl fun g4 hu4 n4 f4=>?_
  rw[<-List.map_set] at hu4
  have f4':∀i,i≠iR->g4.h.get i=g.h.get i:=fun i hi=>by rw[f4 i (by rw[vR];intro e;injection e with e;exact hi e.symm)];simp
  have n4':g.nx<=g4.nx:=by rw[n4];simp;omega
  simp only[sz,simprocAttr]
  refine ⟨?_,?_⟩
  ·simp only[List.reverse_cons,List.reverse_nil,List.nil_append,List.cons_append]
   exact aX [false,false,false,false,false,false,false,false,false,false,false,false,true] [] (by simp[All2,ak,aD]) (by decide) (by simp)
  have k13':g4.h.get fb=.cells 3 [[va,ca,wa]] 0 false false:=by rw[f4' fb n1.2,k13]
  simp only[sz,simprocAttr,h13,h14,h15,k13',rca,u3,u4,ci,w1]
  refine ⟨by simp[St,yG,sx,h13,h12,h11,h2,h4,h45,h46,h47],?_,fun i h1 h2=>?_,_,hu4.fr (by simp) fun i _=>by simp,hst'⟩
  ·simp;omega
  ·simp only[bumpG_h]
   rw[f4' i h2,hfr i h1 h2]
 ·rintro t df g ⟨rfl,h⟩
  exact fin t g h
structure FOk (m:Nat) (f:Factor):Prop where
 cl:f.cards.length=f.vars.length
 vl:f.vars.length<=16
 cb:∀c∈f.cards,1<=c/\c<=4
 nd:f.vars.Nodup
 vr:∀y∈f.vars,0<=y/\y<m
theorem EK {n:Net}(h:NR n){k:Nat}{x:Node}(hx:n.nodes[k]?=some x){p:Nat}(hp:p<=x.parents.length):FOk n.nodes.length (S.aL n k x p):=by
 have h1:=lN (h.places x (List.mem_of_getElem? hx)) (by omega)
 have h2:=h.l2
 have h3:=ol x.parents p (k:Int) hp
 exact ⟨pJ _ _,by show (S.aw x.parents p (k:Int)).length<=16;omega,Do h hx p,DS h hx p,tN h hx p⟩
structure AskH (gr:Int) (b fl S_:AV) (m q:Nat) (fs:List Factor) (k:Nat) (g:G):Prop where
 h0:g.h.get 0=.cells 2 [[.int .i64 gr,b]] 0 false false
 h1:g.h.get 1=.cells 4 [[.int .i64 0,.nils,.nils,.nils]] 0 false false
 hq:g.h.get q=.cells 4 [[.int .i64 gr,b,fl,S_]] 0 false false
 q2:2<=q/\q<g.nx
 sq:∀i,vid S_=some i->i<q
 hS:∃(Vs:List AV) (l:List (List Int)),Own g 2 S_ 1 (Vs.map fun v=>[v])/\Vs.length=m/\l.length=k/\All2 (fun X v=>Own g (q+1) v 1 (X.map ci)) l (Vs.take k)/\∀(i:Nat) (f:Factor) (X:List Int),fs[i]?=some f->l[i]?=some X->S.bi m f 0 X
structure AskJ (gr:Int) (b fl S_:AV) (m q:Nat) (fs:List Factor) (k:Nat) (t:T) (g:G):Prop where
 st:St t [(11,.hptr q 0 0 0),(2,.hptr 0 0 0 0),(4,.hptr 1 0 0 0),(45,fl)]
 hp:AskH gr b fl S_ m q fs k g
theorem If {d m q:Nat}{gr:Int}{b fl S_:AV}{fs:List Factor}{Q:QT}{t:T}{g:G}(hb:∀g,iA .slice b g=.val (.int .i64 (m:Int)))(hm:m<=8)(hfl:SlR NoP 0 .nil fs fl)(hfm:fs.length=m)(hok:∀(i:Nat) (f:Factor),fs[i]?=some f->FOk m f)
  (h0:AskJ gr b fl S_ m q fs 0 t g) (h47:tat t 47=.int .i64 0) (h46:tat t 46=.int .i64 (m:Int))
  (fin:∀t g,AskJ gr b fl S_ m q fs m t g->Q (.exit 2) t [] g):wpL (wp C0 d none iV) Q t [] g:=by
 obtain ⟨rows,r1,r2,r3,r4⟩:=hfl.all
 have r1:∀h',ah h' 3 fl=some rows:=r1
 simp only[iV,nT]
 refine bf (m:=m) (by omega) (fun k t df g=>df=[]/\AskJ gr b fl S_ m q fs k t g) ⟨rfl,h0⟩ h47 h46 (by decide)
  (by rintro j t df g v s (rfl | rfl | rfl) ⟨a1,⟨b1,b2,b3,b4,-⟩,c1⟩<;>exact ⟨a1,by simp[St,sx,b1,b2,b3,b4],c1⟩) ?_ ?_
 ·rintro k t df g hk ⟨rfl,⟨h11,h2,h4,h45,-⟩,hp⟩ h47 h46
  obtain ⟨f,hf,-,-⟩:=aw (l:=fs) (j:=k) (by omega)
  obtain ⟨row,q1,q2⟩:=r3 k f hf
  obtain ⟨va,ca,wa,rfl,hva,hca,hwa⟩:=lj.1 q2
  have hF:=hok k f hf
  have hlt:k<rows.length:=by omega
  have hry:=r4 (by omega)
  obtain ⟨Vs,l,hS,hVl,hll,hal,hst⟩:=hp.hS
  obtain ⟨q2a,q2b⟩:=hp.q2
  have ne0:∀i,i<g.nx->¬i=g.nx:=fun i hi=>by omega
  refine dk (P:=fun t' df g'=>df=[]/\g'=(g.new (.cells 3 [[.nils,.nils,.nils]] 0 false false)).put g.nx (.cells 3 [[va,ca,wa]] 0 false false)/\St t' ((13,.hptr g.nx 0 0 0)::(12,.int .i64 (k:Int))::yG fl m q k)) ?_ ?_
  ·simp only[sz,simprocAttr,h45,h47,r1,hlt,q1]
   simp[St,yG,sx,h11,h2,h4,h45,h47,h46]
  clear h11 h2 h4 h45 h47 h46
  rintro t df g1 ⟨rfl,hg1,⟨h13,h12,h11,h2,h4,h45,h46,h47,-⟩⟩
  have f1:∀i,i<g.nx->g1.h.get i=g.h.get i:=fun i hi=>by rw[hg1];simp[H.get_put,ne0 i hi]
  have n1:g1.nx=g.nx+1:=by rw[hg1];simp
  have k1:g1.h.get g.nx=.cells 3 [[va,ca,wa]] 0 false false:=by rw[hg1];simp[H.get_put]
  clear hg1
  have e0:g1.h.get 0=.cells 2 [[.int .i64 gr,b]] 0 false false:=by rw[f1 0 (by omega),hp.h0]
  have eq:g1.h.get q=.cells 4 [[.int .i64 gr,b,fl,S_]] 0 false false:=by rw[f1 q (by omega),hp.hq]
  have hS1:Own g1 2 S_ 1 (Vs.map fun v=>[v]):=hS.fr (by omega) fun i hi=>f1 i (hS.lt hi).2
  have rS:=hS1.rows
  have hkV:k<(Vs.map fun v=>[v]).length:=by simp;omega
  have hgV:(Vs.map fun v=>[v])[k]?=some [Vs[k]'(by omega)]:=by rw[List.getElem?_map,List.getElem?_eq_getElem (by omega)];rfl
  refine eR (P:=fun t' df g'=>df=[]/\St t' ((13,.hptr g.nx 0 0 0)::(12,.int .i64 (k:Int))::yG fl m q k)/\g1.nx<g'.nx/\∃R iR,vid R=some iR/\g1.nx<=iR/\iR<g'.nx/\Own g' 2 S_ 1 ((Vs.set k R).map fun v=>[v])/\Own g' (q+1) R 1 ((List.replicate m (0:Int)).map ci)/\∀i,i<g1.nx->vid S_≠some i->g'.h.get i=g1.h.get i) ?_ ?_
  ·simp only[sz,simprocAttr,sf,h11,h2,h12,e0,eq,hb]
   refine lE (b:=q+1) (n:=m) (by unfold be;omega) (by unfold be;omega) (by simp;omega) fun R g2 hR n2 f2 vR lg2=>?_
   simp only[sy] at n2 f2 vR lg2
   have hS2:Own g2 2 S_ 1 (Vs.map fun v=>[v]):=hS1.fr (by omega) fun i hi=>by
    have:=hS1.lt hi
    rw[f2 i (by omega)]
   have rS2:=hS2.rows
   simp only[sz,simprocAttr,sf,rS2,hkV]
   refine bL (v:=S_) (sz:=1) (n:=1) (i:=k) (off:=0) (x:=R) (row':=[R]) (hS2.fr (by simp;omega) fun i _=>by simp) hgV (by rw[hR.cell.1];rfl) hR.cell.2 (by rw[hR.cell.1];rfl) fun g4 hu4 n4 f4=>?_
   rw[show (Vs.map fun v=>[v]).set k [R]=(Vs.set k R).map fun v=>[v] from by rw[List.map_set]] at hu4
   have f4':∀i,vid S_≠some i->g4.h.get i=g2.h.get i:=fun i hi=>by rw[f4 i hi];simp
   have n4':g2.nx<=g4.nx:=by rw[n4];simp;omega
   simp only[sy,lg2]
   refine ⟨?_,?_,?_,R,g1.nx+6,vR,by omega,?_,?_,?_,fun i h1 h2=>?_⟩
   ·simp only[List.reverse_cons,List.reverse_nil,List.nil_append,List.cons_append]
    refine aX [false,false,false,false,false,false,true,false,true] [(0,6),(1,6),(2,6)] (by simp[All2,ak,aD]) (by decide) ?_
    rintro p hp' x y hx hy
    simp only[List.mem_cons,List.not_mem_nil,or_false] at hp'
    rcases hp' with rfl | rfl | rfl<;>(simp at hx hy;subst hx;subst hy;refine eo rfl rfl rfl rfl ?_ ?_ ?_<;>simp[ak,aD,ae]<;>omega)
   ·simp[St,yG,sx,h13,h12,h11,h2,h4,h45,h46,h47]
   ·omega
   ·omega
   ·exact hu4.fr (by simp) fun i _=>by simp
   ·have hR':Own g2 (q+1) R 1 ((List.replicate m (0:Int)).map ci):=by simpa [ci] using hR
    refine hR'.fr (by simp;omega) fun i hi=>?_
    have:=dT vR hi
    simp only[bumpG_h]
    exact f4' i fun e=>by have:=hS1.lt e;omega
   ·rw[f4' i h2,f2 i (by omega)]
  clear h13 h12 h11 h2 h4 h45 h46 h47
  rintro t df g2 ⟨rfl,⟨h13,h12,h11,h2,h4,h45,h46,h47,-⟩,n2,R,iR,vR,hiR,hiR2,hS2,hR,f2⟩
  have e13:g2.h.get g.nx=.cells 3 [[va,ca,wa]] 0 false false:=by rw[f2 g.nx (by omega) (fun e=>by have:=hp.sq _ e;omega),k1]
  have e11:g2.h.get q=.cells 4 [[.int .i64 gr,b,fl,S_]] 0 false false:=by rw[f2 q (by omega) (fun e=>by have:=hp.sq _ e;omega),eq]
  have lva:=hva.len
  have hvl:=hF.vl
  have hR2:Own g2 2 R 1 ((List.replicate m (0:Int)).map ci):=Own.low hR (by omega)
  have w1:IntKind.wrap .i64 ((f.vars.length:Int) - 1)=(f.vars.length:Int) - 1:=aG (by omega) (by omega)
  have hgV2:((Vs.set k R).map fun v=>[v])[k]?=some [R]:=by rw[List.getElem?_map,List.getElem?_set_self (by omega)];rfl
  simp only[sz,simprocAttr,h13,e13,lva,w1]
  refine Iw (g0:=g2) (fl:=fl) (fl':=fl) (m:=m) (q:=q) (k:=k) (fb:=g.nx) (iR:=iR) (R:=R) (S_:=S_) (b:=b) (gr:=gr) (va:=va) (ca:=ca) (wa:=wa) (f:=f) (rowsS:=(Vs.set k R).map fun v=>[v]) hva hca hF.cl hF.vl hF.cb hF.nd hF.vr e11 e13 hS2 hgV2 vR (fun e=>by have:=hp.sq _ e;omega) ⟨by omega,by omega⟩ ⟨by omega,by omega,by omega⟩
   ⟨by simp[St,yG,sx,h13,h12,h11,h2,h4,h45,h46,h47,S.ae,List.drop_of_length_le (show f.cards.length<=f.vars.length by rw[hF.cl];exact Nat.le_refl _)],Nat.le_refl _,fun _ _ _=>rfl,List.replicate m 0,hR2,by simp,fun j y hj hy=>?_⟩ (by simp[sx]) ?_
  ·have:=(List.getElem?_eq_some_iff.1 hy).1
   omega
  clear h13 h12 h11 h2 h4 h45 h46 h47
  rintro t g3 ⟨⟨h13,h12,h14,h11,h2,h4,h45,h46,h47,-⟩,n3,f3,X,hX,hXo⟩
  simp only[sx,sy,↓reduceIte]
  have hfin:∀i,i<g.nx->vid S_≠some i->g3.h.get i=g.h.get i:=fun i h1 h2=>by
   rw[f3 i (by omega) (by omega),f2 i (by omega) h2,f1 i h1]
  refine ⟨⟨by simp[St,h11,h2,h4,h45],?_⟩,h47,h46⟩
  have hsl:∀i,i<2\/i=q->vid S_≠some i:=fun i hi e=>by
   have:=hp.sq i e
   have:=(hS.lt e).1
   omega
  refine ⟨by rw[hfin 0 (by omega) (hsl 0 (by omega)),hp.h0],by rw[hfin 1 (by omega) (hsl 1 (by omega)),hp.h1],by rw[hfin q q2b (hsl q (by omega)),hp.hq],⟨q2a,by omega⟩,hp.sq,Vs.set k R,l++[X],hS2.fr n3 fun i hi=>f3 i (hS2.lt hi).2 fun e=>by have:=hp.sq i hi;omega,by simpa using hVl,by simp[hll],?_,?_⟩
  ·have htk:(Vs.set k R).take (k+1)=Vs.take k++[R]:=by
    rw[List.take_add_one,List.take_set_of_le (Nat.le_refl _),List.getElem?_set_self (by omega)]
    rfl
   rw[htk]
   refine (hal.mono fun X' v r=>?_).append ⟨?_,trivial⟩
   ·exact r.fr (by omega) fun i hi=>by
     have:=r.lt hi
     exact hfin i this.2 fun e=>by have:=hp.sq i e;omega
   ·rcases hX with h | ⟨id,ep,lo,p1,p2,rfl,p4⟩
    ·exact .inl h
    ·injection vR with vR
     exact .inr ⟨id,ep,lo,by omega,p2,rfl,p4⟩
  ·intro i f' X' hf' hX'
   by_cases hi:i<l.length
   ·rw[List.getElem?_append_left hi] at hX'
    exact hst i f' X' hf' hX'
   ·have h1:=(List.getElem?_eq_some_iff.1 hX').1
    have:i=k:=by simp at h1;omega
    subst this
    rw[hf] at hf';injection hf' with hf';subst hf'
    rw[List.getElem?_append_right (by omega),hll,Nat.sub_self] at hX'
    simp at hX'
    subst hX'
    exact hXo
 ·rintro t df g ⟨rfl,h⟩
  exact fin t g h
theorem G2 (n:Net)(ls:List (List Int)):Snb (GM n ls) 2:=jB fun y=>bz (m:=2) (bm _) (aM _) (by decide) (by decide)
def qn0:QnM:=(⟨0,[]⟩,[],[])
theorem Gg (P:Nat->Prop)(h:H):Agg qn0 P 0 h (.agg [.int .i64 0,.nils,.nils,.nils]):=⟨_,rfl,rR.2 ⟨.nils,.nils,.nils,rfl,⟨by show 0<9223372036854775808;decide,rfl⟩,⟨by show 0<9223372036854775808;decide,rfl⟩,⟨by show 0<9223372036854775808;decide,rfl⟩⟩⟩
theorem Aw {a b c w:AV}(h:w.cells=[w])(h2:w.isTup=false)(h3:b.cells=[b])(h4:b.isTup=false):dY [.int .i64 0,.nils,.nils,.nils] [((0,2),.agg [a,c]),((2,1),b),((3,1),w)]=some [a,c,b,w]:=by
 have k1:(AV.agg [a,c]).cells=[a,c]:=rfl
 have k2:(AV.agg [a,c]).isTup=false:=rfl
 simp[dY,h,h2,h3,h4,dG,k1,k2]
 rfl
theorem Fv {d kk:Nat}{P:Nat->Prop}{g:G}{v w:AV}{n:Net}{ls:List (List Int)}(hd:0<d)(hm:Agg n NoP 0 g.h v)(hw:SlR P kk g.h ls w):∃r,ac C0 d N.aU [v,w] g=.val r/\GM n ls NoP 0 .nil r:=by
 obtain ⟨b,rows,rfl,e1,hm',hN,r1,r2,r3,r4⟩:=jj d hm
 obtain ⟨w',e2,hw'⟩:=ia hw d
 obtain ⟨wrows,p1,p2,p3,p4⟩:=(hw' .nil).all
 have p1:∀h',ah h' 1 w'=some wrows:=p1
 have hwl:=hw.1
 have wl:=fun g=>(hw' .nil).len g
 rw[tV]
 refine aR xE (xs:=[.agg [.int .i64 n.grain,b],w']) (by simp only[aE,e1,e2]) (by simp[mW]) (G2 n ls) (by decide) hd ?_
 simp only[sz,simprocAttr,mW]
 obtain ⟨g0,hg0⟩:∃g0,g0=(G.empty.new (.cells 2 [[.int .i64 n.grain,b]] 0 false false)).new (.cells 4 [[.int .i64 0,.nils,.nils,.nils]] 0 false false):=⟨_,rfl⟩
 rw[<-hg0]
 have f0:g0.h.get 0=.cells 2 [[.int .i64 n.grain,b]] 0 false false:=by rw[hg0];simp[sx,H.get_put]
 have f1:g0.h.get 1=.cells 4 [[.int .i64 0,.nils,.nils,.nils]] 0 false false:=by rw[hg0];simp[sx]
 have f2:g0.nx=2:=by rw[hg0];simp[sx]
 clear hg0
 simp only[pg]
 obtain ⟨z,ez,fs,⟨hfl,hfs⟩,fl,er,rfl,hfl2,her⟩:=Hm (d:=d+1) (g:=g0) (Nat.succ_pos d) (hm' g0.h)
 have her:=aC.1 her
 injection her with her
 subst her
 obtain ⟨_,e3,hfl2⟩:=hfl2
 injection e3 with e3;subst e3
 cases hn:S.aG n with
 | false =>
  have hs:S.aI n ls=50:=by rw[S.aI,hn];rfl
  rw[hn] at ez
  simp only[Bool.false_eq_true,↓reduceIte] at ez
  simp only[sz,simprocAttr,f0,ez,show ¬((50:Int)=0) from by decide,f1]
  refine ⟨fun _=>True,qn0,?_,_,_,rfl,?_,?_⟩
  ·rw[hs];intro h;cases h
  ·exact Gg _ _
  ·rw[hs];exact aC.2 rfl
 | true =>
  have hr:=cO.1 hn
  have hfl:=hfl hn
  rw[hn] at ez
  simp only[↓reduceIte] at ez
  refine eR (P:=fun t' df g'=>df=[]/\g'=g0/\St t' [(1,w'),(2,.hptr 0 0 0 0),(4,.hptr 1 0 0 0),(6,fl),(7,.int .i64 0)]) ?_ ?_
  ·simp only[sz,simprocAttr,f0,ez]
   simp[St,sx]
  rintro t df g1 ⟨rfl,rfl,h1,h2,h4,h6,h7,-⟩
  obtain ⟨Qf,hQf⟩:∃Qf,Qf=fnQ C0 (d+1) [SR.cell true 4 4,SR.tm 5] (fun v g'=>∃P,GM n ls P 0 g'.h v):=⟨_,rfl⟩
  rw[<-hQf]
  simp only[sz,simprocAttr,h1,h7,wl,mZ]
  refine bf (m:=ls.length) hwl (fun j t df g=>df=[]/\St t [(25,w'),(2,.hptr 0 0 0 0),(4,.hptr 1 0 0 0),(6,fl)]/\g=g1/\∀e∈ls.take j,S.aq n e=true) ⟨rfl,by simp[St,sx,h2,h4,h6],rfl,by simp⟩ (by simp[sx]) (by simp[sx]) (by decide)
   (by rintro j t df g v s (rfl | rfl | rfl) ⟨a1,⟨b1,b2,b3,b4,-⟩,c1,c2⟩<;>exact ⟨a1,by simp[St,sx,b1,b2,b3,b4],c1,c2⟩) ?_ ?_
  ·rintro j t df g hj ⟨rfl,⟨h25,h2,h4,h6,-⟩,rfl,hall⟩ h27 h26
   obtain ⟨e,he,htk,hem⟩:=aw hj
   obtain ⟨row,q1,q2⟩:=p3 j e he
   obtain ⟨z,rfl,hz⟩:=oe.1 q2
   have hlt:j<wrows.length:=by omega
   have hch:=ED (d:=d+1) (g:=g) (e:=e) (w:=z) (Nat.succ_pos d) (hm' g.h) (hz.tree (h':=g.h) (Nat.le_refl _))
   cases hev:S.aq n e with
   | true =>
    have hs:S.aA n e=0:=by rw[S.aA,hn,hev];rfl
    rw[hs] at hch
    simp only[sz,simprocAttr,h25,h27,h26,h2,p1,hlt,q1,f0,hch]
    refine ⟨by simp[St,sx,h2,h4,h6,h25],fun y hy=>?_⟩
    rw[htk] at hy
    rcases List.mem_append.1 hy with h | h
    ·exact hall y h
    ·rw[List.mem_singleton.1 h];exact hev
   | false =>
    have hs:S.aA n e=2:=by rw[S.aA,hn,hev];rfl
    have hs2:S.aI n ls=2:=by
     have:ls.all (S.aq n)=false:=by
      rw[<-Bool.not_eq_true,List.all_eq_true]
      intro h
      rw[h e hem] at hev;cases hev
     rw[S.aI,hn,this];rfl
    rw[hs] at hch
    rw[hQf]
    simp only[sz,simprocAttr,h25,h27,h2,h4,p1,hlt,q1,f0,f1,hch,show ¬((2:Int)=0) from by decide]
    refine ⟨fun _=>True,qn0,?_,_,_,rfl,?_,?_⟩
    ·rw[hs2];intro h;cases h
    ·exact Gg _ _
    ·rw[hs2];exact aC.2 rfl
  ·rintro t df g ⟨rfl,⟨h25,h2,h4,h6,-⟩,rfl,hall⟩
   rw[List.take_length] at hall
   have hs:S.aI n ls=0:=by rw[S.aI,hn,List.all_eq_true.2 hall];rfl
   have hl8:=hr.l2
   have fll:=fun g=>hfl2.len g
   simp only[sx,↓reduceIte]
   unfold nw
   refine eR (P:=fun t' df g'=>df=[]/\∃S_ q,St t' [(2,.hptr 0 0 0 0),(4,.hptr 1 0 0 0),(6,fl),(11,.hptr q 0 0 0)]/\AskH n.grain b fl S_ n.nodes.length q fs 0 g') ?_ ?_
   ·simp only[sz,simprocAttr,sf,h2,h6,f0,fll,hfl]
    refine lE (b:=2) (n:=n.nodes.length) (by unfold be;omega) (by unfold be;omega) (by first | (simp;done) | (simp;omega)) fun S_ g2 hS n2 f2' vS lg2=>?_
    simp only[sy] at n2 f2' vS lg2
    have hflc:fl.cells=[fl]/\fl.isTup=false:=by
     have h:=hfl2.2
     unfold SlV at h
     split at h<;>first | exact ⟨rfl,rfl⟩ | exact h.elim
    simp only[sz,simprocAttr,sf,Aw hS.cell.1 hS.cell.2 hflc.1 hflc.2,lg2]
    have n2':g.nx+5=g2.nx:=by omega
    have k0:g2.h.get 0=.cells 2 [[.int .i64 n.grain,b]] 0 false false:=by rw[f2' 0 (by omega),f0]
    have k1:g2.h.get 1=.cells 4 [[.int .i64 0,.nils,.nils,.nils]] 0 false false:=by rw[f2' 1 (by omega),f1]
    refine ⟨?_,S_,g2.nx+1+1,by simp[St,sx,h2,h4,h6],⟨?_,?_,?_,⟨by omega,by simp⟩,fun i hi=>by have:=dT vS hi;omega,List.replicate n.nodes.length .nils,[],?_,by simp,rfl,trivial,fun i f X _ h=>by simp at h⟩⟩
    ·simp only[List.reverse_cons,List.reverse_nil,List.nil_append,List.cons_append,G.new_lg,G.put_lg,setLog_lg]
     refine aX [false,false,false,false,true,false,true,true] [(0,4),(1,4),(0,6),(1,6),(2,6),(3,6),(4,6),(5,6)] (by simp[All2,ak,aD]) (by decide) ?_
     rintro p hp' x y hx hy
     simp only[List.mem_cons,List.not_mem_nil,or_false] at hp'
     rcases hp' with rfl | rfl | rfl | rfl | rfl | rfl | rfl | rfl<;>(simp at hx hy;subst hx;subst hy;refine eo rfl rfl rfl rfl ?_ ?_ ?_<;>simp[ak,aD,ae]<;>omega)
    ·simp[H.get_put,k0]
    ·simp[H.get_put,k1]
    ·simp[H.get_put]
    ·have hS':Own g2 2 S_ 1 ((List.replicate n.nodes.length AV.nils).map fun v=>[v]):=by simpa using hS
     refine hS'.fr (by simp;omega) fun i hi=>?_
     have:=dT vS hi
     simp[H.get_put,show ¬i=g2.nx+1+1 by omega]
   clear h25 h2 h4 h6
   rintro t df g2 ⟨rfl,S_,q,⟨h2,h4,h6,h11,-⟩,hp⟩
   have hbl:=hN.len
   simp only[sz,simprocAttr,h6,fll,hfl]
   refine If (m:=n.nodes.length) (q:=q) (gr:=n.grain) (b:=b) (fl:=fl) (S_:=S_) (fs:=fs) hbl hl8 hfl2 hfl (fun i f hf=>?_) ⟨by simp[St,sx,h2,h4,h11],hp⟩ (by simp[sx]) (by simp[sx]) ?_
   ·have hi:=(List.getElem?_eq_some_iff.1 hf).1
    obtain ⟨x,hx,-,-⟩:=aw (l:=n.nodes) (j:=i) (by omega)
    obtain ⟨p,hpp,hf2⟩:=hfs i x hi hx
    rw[hf] at hf2;injection hf2 with hf2;subst hf2
    exact EK hr hx hpp
   clear h2 h4 h6 h11 hp
   rintro t g3 ⟨⟨h11,h2,h4,h45,-⟩,hp⟩
   obtain ⟨Vs,l,hS,hVl,hll,hal,hst⟩:=hp.hS
   rw[List.take_of_length_le (by omega)] at hal
   rw[hQf]
   have q2:=hp.q2.1
   simp only[sz,simprocAttr,na,h11,h4,hp.hq,hp.h1]
   have hne:∀i,i≠1->(g3.h.put 1 (.cells 4 [[.int .i64 n.grain,b,fl,S_]] 0 false false)).get i=g3.h.get i:=fun i hi=>by simp[H.get_put,hi]
   refine ⟨fun _=>True,(n,fs,l),fun _=>⟨rfl,hfl,hfs,hll,hst⟩,_,_,rfl,⟨_,rfl,rR.2 ⟨b,fl,S_,rfl,hN.wide (Nat.le_refl 0),hfl2.wide (Nat.le_refl 0),?_⟩⟩,?_⟩
   ·have hS':Own (g3.put 1 (.cells 4 [[.int .i64 n.grain,b,fl,S_]] 0 false false)) 2 S_ 1 (Vs.map fun v=>[v]):=hS.fr (by simp) fun i hi=>by
     have:=(hS.lt hi).1
     simp[H.get_put,show ¬i=1 by omega]
    refine Own.sl (α:=List Int) hS' (by show l.length<_;omega) ?_ fun _ _=>trivial
    have hal2:∀(l:List (List Int)) (Vs:List AV),All2 (fun X v=>Own g3 (q+1) v 1 (X.map ci)) l Vs->(∀X∈l,X.length<9223372036854775808)->All2 (Rp.rp (fun _=>True) 0 (g3.put 1 (.cells 4 [[.int .i64 n.grain,b,fl,S_]] 0 false false)).h) l (Vs.map fun v=>[v]):=by
     intro l
     induction l with
     | nil=>intro Vs h _;cases Vs with
      | nil=>trivial
      | cons v Vs=>exact h.elim
     | cons X l ih=>intro Vs h hX;cases Vs with
      | nil=>exact h.elim
      | cons v Vs =>
       refine ⟨?_,ih Vs h.2 fun Y hY=>hX Y (by simp[hY])⟩
       have ho:Own (g3.put 1 (.cells 4 [[.int .i64 n.grain,b,fl,S_]] 0 false false)) (q+1) v 1 (X.map ci):=h.1.fr (by simp) fun i hi=>by
        have:=(h.1.lt hi).1
        simp[H.get_put,show ¬i=1 by omega]
       obtain ⟨_,e1,hh⟩:=ho.ints (k:=0) (hX X (by simp))
       exact oe.2 ⟨_,e1,hh⟩
    refine hal2 l Vs hal fun X hX=>?_
    obtain ⟨i,hi,he⟩:=List.mem_iff_getElem.1 hX
    have:=(hst i _ X (List.getElem?_eq_getElem (show i<fs.length by omega)) (by rw[List.getElem?_eq_getElem hi,he])).1
    omega
   ·rw[hs];exact aC.2 rfl
theorem Cf {α:Type}{l:List α}{i:Nat}{x y:α}(h1:l[i]?=some x)(h2:l[i]?=some y):x=y:=by rw[h1] at h2;injection h2
structure WtI (y:QnM) (b fl S_ wv va ca wa:AV) (gr wt:Int) (p:Int) (cards pv:List Int) (m k fb i:Nat) (t:T) (g:G):Prop where
 st:St t [(1,wv),(2,.hptr 0 0 0 0),(12,fl),(13,.int .i64 (m:Int)),(14,.int .i64 (k:Int)),(5,.int .i64 wt),(6,.int .i64 (k:Int)),(7,.hptr fb 0 0 0),(20,va),(8,.int .i64 (p - S.af (cards.drop i) (pv.drop i)))]
 h0:g.h.get 0=.cells 4 [[.int .i64 gr,b,fl,S_]] 0 false false
 hf:g.h.get fb=.cells 3 [[va,ca,wa]] 0 false false
 nn:0<=p - S.af (cards.drop i) (pv.drop i)
 nx:1<=g.nx
theorem Cz {d m k fb kv kz:Nat}{y:QnM}{b fl S_ wv va ca wa:AV}{gr wt p:Int}{f:Factor}{R vals:List Int}{mm:Nat}{Q:QT}{t:T}{g:G}(hva:SlR NoP kv .nil f.vars va)(hF:FOk mm f)(hR:S.bi mm f 0 R)(hvl:vals.length=mm)
  (hS:∃(srows:List (List AV)) (z:AV),(∀h,ah h 1 S_=some srows)/\srows[k]?=some [z]/\k<srows.length/\SlR NoP kz .nil R z) (rv:∀h,ah h 1 wv=some (vals.map ci)) (hp:p=S.af f.cards (S.ac vals f.vars)) (hin:InC f.cards (S.ac vals f.vars)) (hpb:p<=10000000)
  (h0:WtI y b fl S_ wv va ca wa gr wt p f.cards (S.ac vals f.vars) m k fb 0 t g) (h22:tat t 22=.int .i64 0) (h21:tat t 21=.int .i64 (f.vars.length:Int))
  (fin:∀t g,WtI y b fl S_ wv va ca wa gr wt p f.cards (S.ac vals f.vars) m k fb f.vars.length t g->Q (.exit 2) t [] g):wpL (wp C0 d none bQ) Q t [] g:=by
 obtain ⟨srows,z,s1,s2,s3,hz⟩:=hS
 have rva:=fun h=>(hva.tree (h':=h) (Nat.le_refl _)).ints
 have rz:=fun h=>(hz.tree (h':=h) (Nat.le_refl _)).ints
 simp only[bQ]
 refine bf (m:=f.vars.length) hva.1 (fun i t df g=>df=[]/\WtI y b fl S_ wv va ca wa gr wt p f.cards (S.ac vals f.vars) m k fb i t g) ⟨rfl,h0⟩ h22 h21 (by decide)
  (by rintro j t df g v s (rfl | rfl | rfl) ⟨a1,⟨b1,b2,b3,b4,b5,b6,b7,b8,b9,b10,-⟩,c1,c2,c3,c4⟩<;>exact ⟨a1,by simp[St,sx,b1,b2,b3,b4,b5,b6,b7,b8,b9,b10],c1,c2,c3,c4⟩) ?_ ?_
 ·rintro i t df g hi ⟨rfl,⟨h1,h2,h12,h13,h14,h5,h6,h7,h20,h8,-⟩,e0,ef,hnn,hnx⟩ h22 h21
  obtain ⟨u,hu,-,hum⟩:=aw hi
  obtain ⟨hu0,hum⟩:=hF.vr u hum
  obtain ⟨un,rfl⟩:=Int.eq_ofNat_of_zero_le hu0
  have hcl:=hF.cl
  have hdr:f.cards.drop i=f.cards[i]::f.cards.drop (i+1):=List.drop_eq_getElem_cons (by omega)
  have hval:vals[un]?=some vals[un]:=List.getElem?_eq_getElem (by omega)
  have hpvi:(S.ac vals f.vars)[i]?=some vals[un]:=by simp[S.ac,hu,hval]
  have hdp:(S.ac vals f.vars).drop i=vals[un]::(S.ac vals f.vars).drop (i+1):=by
   have hl:i<(S.ac vals f.vars).length:=by rw[pJ];exact hi
   rw[List.drop_eq_getElem_cons hl]
   rw[List.getElem?_eq_getElem hl] at hpvi
   injection hpvi with hpvi
   rw[hpvi]
  have hv0:0<=vals[un]:=by
   obtain ⟨v',h1,h2,-⟩:=hin.get (i:=i) (c:=f.cards[i]) (List.getElem?_eq_getElem (by omega))
   rw[Cf hpvi h1];exact h2
  generalize vals[un]=x at hval hpvi hdp hv0
  have hRu:=hR.2 i (un:Int) (Nat.zero_le _) hu
  rw[Int.toNat_natCast] at hRu
  have hRl:=(List.getElem?_eq_some_iff.1 hRu).1
  have u1:i<(f.vars.map ci).length:=by simpa using hi
  have u2:(f.vars.map ci)[i]?=some (ci (un:Int)):=by rw[List.getElem?_map,hu];rfl
  have u3:un<(vals.map ci).length:=by simp;omega
  have u4:(vals.map ci)[un]?=some (ci x):=by rw[List.getElem?_map,hval];rfl
  have u5:un<(R.map ci).length:=by simpa using hRl
  have u6:(R.map ci)[un]?=some (ci (S.ae (f.cards.drop (i+1)))):=by rw[List.getElem?_map,hRu];rfl
  have hidx:S.af (f.cards.drop i) ((S.ac vals f.vars).drop i)=x*S.ae (f.cards.drop (i+1))+S.af (f.cards.drop (i+1)) ((S.ac vals f.vars).drop (i+1)):=by rw[hdr,hdp,S.af]
  have hb1:=fc (cards:=f.cards.drop (i+1)) (vals:=(S.ac vals f.vars).drop (i+1)) (fun c hc=>hF.cb c (List.mem_of_mem_drop hc)) (hin.drop (i+1))
  have hb2:=fc (cards:=f.cards.drop i) (vals:=(S.ac vals f.vars).drop i) (fun c hc=>hF.cb c (List.mem_of_mem_drop hc)) (hin.drop i)
  have hpp:=gG (cs:=f.cards.drop (i+1)) fun c hc=>(hF.cb c (List.mem_of_mem_drop hc)).1
  have hxs:0<=x*S.ae (f.cards.drop (i+1)):=Int.mul_nonneg hv0 (by omega)
  have w1:IntKind.wrap .i64 (x*S.ae (f.cards.drop (i+1)))=x*S.ae (f.cards.drop (i+1)):=aG (by omega) (by omega)
  have w2:IntKind.wrap .i64 (p - S.af (f.cards.drop i) ((S.ac vals f.vars).drop i)+x*S.ae (f.cards.drop (i+1)))=p - S.af (f.cards.drop (i+1)) ((S.ac vals f.vars).drop (i+1)):=by
   rw[aG (by omega) (by omega)];omega
  simp only[sz,simprocAttr,h1,h2,h6,h8,h20,h22,h21,e0,rva,u1,u2,rv,u3,u4,s1,s2,s3,rz,u5,u6,ci,w1,w2]
  refine ⟨by simp[St,sx,h1,h2,h12,h13,h14,h5,h6,h7,h20],e0,ef,by omega,by first | exact hnx | (simp;done) | (simp;omega)⟩
 ·rintro t df g ⟨rfl,h⟩
  exact fin t g h
structure WtJ (n:Net) (vals:List Int) (b fl S_ wv:AV) (k:Nat) (t:T) (g:G):Prop where
 st:St t [(1,wv),(2,.hptr 0 0 0 0),(12,fl),(5,.int .i64 (S.ae ((List.range k).map (S.aF n vals))))]
 h0:g.h.get 0=.cells 4 [[.int .i64 n.grain,b,fl,S_]] 0 false false
 nx:1<=g.nx
theorem Cs {d kk ky:Nat}{P:Nat->Prop}{g:G}{v w:AV}{n:Net}{y:QnM}{vals:List Int}(hd:0<d)(hr:NR n)(hm:Agg y NoP ky g.h v)(hq:QnOk n y)(hv:SlR P kk g.h vals w)(hc:InC (S.aa n) vals) :
  ac C0 d N.a9 [v,w] g=.val (.int .i64 (S.aO n vals)):=by
 have e0:=iW d hm
 obtain ⟨cs,rfl,hcs⟩:=hm
 obtain ⟨b,fl,S_,rfl,hN,hfl,hS⟩:=rR.1 hcs
 have hfl:SlR NoP ky .nil y.2.1 fl:=hfl.tree (Nat.le_refl _)
 have hS:SlR NoP ky .nil y.2.2 S_:=hS.tree (Nat.le_refl _)
 obtain ⟨w',e2,hw'⟩:=ia hv d
 have hgr:y.1.grain=n.grain:=by rw[hq.net]
 obtain ⟨frows,f1,f2,f3,f4⟩:=hfl.all
 have f1:∀h',ah h' 3 fl=some frows:=f1
 obtain ⟨srows,s1,s2,s3,s4⟩:=BI hS
 have rv:=fun h=>(hw' h).ints
 have hvl:=hc.len
 rw[aW] at hvl
 have hl8:=hr.l2
 have hfll:=hq.fl
 rw[i7]
 refine mj jZ (xs:=[.agg [.int .i64 y.1.grain,b,fl,S_],w']) (by simp only[aE,e0,e2]) (by simp[ct]) hd ?_
 rw[hgr]
 have ll:=hfl.len
 simp only[sz,simprocAttr,ct,dX,ll,hfll]
 simp only[dI,dA]
 refine bf (m:=n.nodes.length) (by omega) (fun k t df g=>df=[]/\WtJ n vals b fl S_ w' k t g) ⟨rfl,by simp[St,sx,S.ae],by simp[sx],by simp⟩ (by simp[sx]) (by simp[sx]) (by decide)
  (by rintro j t df g v s (rfl | rfl | rfl) ⟨a1,⟨b1,b2,b3,b4,-⟩,c1,c2⟩<;>exact ⟨a1,by simp[St,sx,b1,b2,b3,b4],c1,c2⟩) ?_ ?_
 ·rintro k t df g hk ⟨rfl,⟨h1,h2,h12,h5,-⟩,g0,hnx⟩ h14 h13
  obtain ⟨x,hx,-,-⟩:=aw hk
  obtain ⟨p,hp,hf⟩:=hq.fs k x (by omega) hx
  obtain ⟨row,q1,q2⟩:=f3 k _ hf
  obtain ⟨va,ca,wa,rfl,hva,hca,hwa⟩:=lj.1 q2
  have hF:=EK hr hx hp
  obtain ⟨pn,i1,i2,i3⟩:=Ik hr hc hx p
  have hlt:k<frows.length:=by omega
  have hry:=f4 (by omega)
  obtain ⟨R,hR,-,-⟩:=aw (l:=y.2.2) (j:=k) (by rw[hq.sl];exact hk)
  obtain ⟨z,z1,z2,z3⟩:=s3 k R hR
  have hinp:InC (S.aL n k x p).cards (S.ac vals (S.aL n k x p).vars):=jr hc fun u hu=>by rw[aW];exact tN hr hx p u hu
  have hib:=fc hF.cb hinp
  have hpb:=bP (l:=(S.aL n k x p).cards) hF.cb
  have hfv:=hF.vl
  have hp4:=dM (a:=(S.aL n k x p).cards.length) (b:=9) (by
   have h1:=lN (hr.places x (List.mem_of_getElem? hx)) (by omega)
   have h3:=ol x.parents p (k:Int) hp
   show (S.ac _ _).length<=9
   rw[pJ];omega)
  have h48:(4:Int) ^ 9=262144:=by decide
  have ei:S.af (S.aL n k x p).cards (S.ac vals (S.aL n k x p).vars)=(pn:Int):=i1
  have lva:=hva.len
  have rwa:=fun h=>(hwa.tree (h':=h) (Nat.le_refl _)).ints
  refine dk (P:=fun t' df g'=>df=[]/\g'=(g.new (.cells 3 [[.nils,.nils,.nils]] 0 false false)).put g.nx (.cells 3 [[va,ca,wa]] 0 false false)/\St t' [(1,w'),(2,.hptr 0 0 0 0),(12,fl),(13,.int .i64 (n.nodes.length:Int)),(14,.int .i64 (k:Int)),(5,.int .i64 (S.ae ((List.range k).map (S.aF n vals)))),(6,.int .i64 (k:Int)),(7,.hptr g.nx 0 0 0)]) ?_ ?_
  ·simp only[sz,simprocAttr,h14,h12,f1,hlt,q1]
   simp[St,sx,h1,h2,h12,h13,h14,h5]
  clear h1 h2 h12 h5 h14 h13
  rintro t df g1 ⟨rfl,hg1,⟨h1,h2,h12,h13,h14,h5,h6,h7,-⟩⟩
  have k0:g1.h.get 0=.cells 4 [[.int .i64 n.grain,b,fl,S_]] 0 false false:=by rw[hg1];simp[H.get_put,show ¬0=g.nx by omega,g0]
  have k1:g1.h.get g.nx=.cells 3 [[va,ca,wa]] 0 false false:=by rw[hg1];simp[H.get_put]
  have kn:g1.nx=g.nx+1:=by rw[hg1];simp
  simp only[sz,simprocAttr,h7,k1,lva]
  refine Cz (y:=y) (b:=b) (fl:=fl) (S_:=S_) (wv:=w') (va:=va) (ca:=ca) (wa:=wa) (gr:=n.grain) (wt:=S.ae ((List.range k).map (S.aF n vals))) (p:=(pn:Int)) (f:=S.aL n k x p) (R:=R) (vals:=vals) (mm:=n.nodes.length) (m:=n.nodes.length) (k:=k) (fb:=g.nx) hva hF (hq.st k _ R hf hR) hvl ⟨srows,z,s1,z1,z2,z3⟩ rv ei.symm hinp (by omega)
   ⟨by simp[St,sx,h1,h2,h12,h13,h14,h5,h6,h7,ei],by simpa using k0,by simpa using k1,by simp[ei],by omega⟩ (by simp[sx]) (by simp[sx]) ?_
  clear h1 h2 h12 h13 h14 h5 h6 h7
  rintro t g2 ⟨⟨h1,h2,h12,h13,h14,h5,h6,h7,h20,h8,-⟩,k0,k1,-,hnx2⟩
  have hnil:S.af ((S.aL n k x p).cards.drop (S.aL n k x p).vars.length) ((S.ac vals (S.aL n k x p).vars).drop (S.aL n k x p).vars.length)=0:=by
   rw[List.drop_of_length_le (by rw[hF.cl];exact Nat.le_refl _)];rfl
  rw[hnil,Int.sub_zero] at h8
  have u1:pn<((S.aL n k x p).w.map ci).length:=by
   rw[List.length_map]
   exact (List.getElem?_eq_some_iff.1 i3).1
  have u2:((S.aL n k x p).w.map ci)[pn]?=some (ci (S.aF n vals k)):=by rw[List.getElem?_map];exact congrArg (Option.map ci) i3
  have wb:=pc hr hc (j:=k+1) (by omega)
  have ws:=An n vals k
  have w1:IntKind.wrap .i64 (S.ae ((List.range k).map (S.aF n vals))*S.aF n vals k)=S.ae ((List.range (k+1)).map (S.aF n vals)):=by rw[<-ws,aG (by omega) (by omega)]
  simp only[sz,simprocAttr,dH,h5,h7,k1,h8,rwa,u1,u2,ci,w1]
  exact ⟨⟨by simp[St,sx,h1,h2,h12],k0,hnx2⟩,h14,h13⟩
 ·rintro t df g ⟨rfl,⟨h1,h2,h12,h5,-⟩,g0,hnx⟩
  simp only[sz,simprocAttr,dD,h5]
  rfl
def S.be (vals e:List Int)(i:Nat):Bool:=decide (e[i]?.getD 0 = -1) || decide (e[i]?.getD 0=vals[i]?.getD 0)
def S.jm (vals e:List Int):Bool:=(List.range e.length).all (S.be vals e)
theorem yY {vals e:List Int}(h:∀x∈e,-1<=x):S.jm vals e=S.aS vals e:=by
 have key:S.be vals e=S.bu vals e:=by
  funext i
  have h1:-1<=e[i]?.getD 0:=by
   cases hx:e[i]? with
   | none=>decide
   | some x=>exact h x (List.mem_of_getElem? hx)
  unfold S.be S.bu
  generalize e[i]?.getD 0=x at h1
  congr 1
  rw[decide_eq_decide]
  omega
 rw[S.jm,S.aS,key]
theorem uA {d k k2:Nat}{g:G}{P P2:Nat->Prop}{v w:AV}{vals e:List Int}(hd:0<d)(hv:SlR P k g.h vals v)(hw:SlR P2 k2 g.h e w)(hl:e.length<=vals.length) :
  ac C0 d N.aS [v,w] g=.val (.bool (S.jm vals e)):=by
 obtain ⟨v',e1,r1⟩:=ia hv d
 obtain ⟨w',e2,r2⟩:=ia hw d
 have ra:∀h',ah h' 1 v'=some (vals.map ci):=fun h'=>(r1 h').ints
 have rb:∀h',ah h' 1 w'=some (e.map ci):=fun h'=>(r2 h').ints
 have n2:=fun g=>(r2 .nil).len g
 rw[pu]
 refine kT qQ (xs:=[v',w']) (by simp only[aE,e1,e2]) (by simp[ib]) hd ?_
 simp only[sz,simprocAttr,ib,iS,n2]
 refine bf (m:=e.length) hw.1 (fun j t df g=>df=[]/\St t [(0,v'),(8,w'),(5,.bool true)]/\(List.range j).all (S.be vals e)=true) ⟨rfl,by simp[St,sx],rfl⟩ (by simp[sx]) (by simp[sx]) (by decide) (by rintro j t df g v s (rfl | rfl | rfl)<;>simp[St,sx]) ?_ ?_
 ·rintro j t df g hj ⟨rfl,⟨h0,h8,h5,-⟩,hA⟩ h10 h9
  obtain ⟨x,hx,-,-⟩:=aw hj
  obtain ⟨z,hz,-,-⟩:=aw (l:=vals) (j:=j) (by omega)
  have q1:j<(e.map ci).length:=by simpa using hj
  have q2:j<(vals.map ci).length:=by rw[List.length_map];omega
  have q3:(e.map ci)[j]?=some (ci x):=by rw[List.getElem?_map,hx];rfl
  have q4:(vals.map ci)[j]?=some (ci z):=by rw[List.getElem?_map,hz];rfl
  have hat:S.be vals e j=(decide (x = -1) || decide (x=z)):=by simp[S.be,hx,hz]
  by_cases c1:x = -1
  ·subst c1
   simp only[sz,simprocAttr,h10,h9,h8,rb,q1,q3,ci]
   refine ⟨by simp[St,sx,h0,h8,h5],?_⟩
   rw[nR,hA,hat];simp
  ·by_cases c2:x=z
   ·subst c2
    simp only[sz,simprocAttr,h10,h9,h8,h0,ra,rb,q1,q2,q3,q4,ci,c1]
    refine ⟨by simp[St,sx,h0,h8,h5],?_⟩
    rw[nR,hA,hat];simp
   ·have:S.be vals e j=false:=by rw[hat];simp[c1,c2]
    have hf:S.jm vals e=false:=by rw[S.jm,se hj this]
    simp only[sz,simprocAttr,h10,h8,h0,ra,rb,q1,q2,q3,q4,ci,c1,c2,eQ,hf]
 ·rintro t df g ⟨rfl,⟨h0,h8,h5,-⟩,hA⟩
  simp only[sz,simprocAttr,eQ,h5]
  rw[S.jm,hA]
theorem FS {α:Type} [Rp α]{P:Nat->Prop}{k:Nat}{h:H}{l:List α}{w:AV}(hw:SlR P k h l w)(g:G):Ax w g=.upd (.hptr g.nx 0 0 0) (g.new (.cells 1 [[w]] 0 false false)):=by
 rw[zX _ _ hw.cell.2,hw.cell.1];rfl
def F7 {α:Type} [Rp α](x:α)(sz:Nat):VS:=fun P k h v=>(∃id cs,v=.hptr id 0 0 0/\P id/\h.get id=.cells sz [cs] 0 false false/\Rp.rp P k h x cs)\/∃t cs,v=.tptr t sz [cs] 0 0/\t<=k/\Rp.rp NoP k .nil x cs
theorem zB {α:Type} [Rp α]{x:α}{sz:Nat}{P:Nat->Prop}{k:Nat}{h:H}{v:AV}{n:Nat}(d:Nat)(r:F7 x sz P k h v)(hn:Rp.dp α<=n)(hd:Rp.dp α<=20:=by decide):∃v',Hx.snap h d (n+1) v=some v'/\F7 x sz NoP (max k d) .nil v':=by
 rcases r with ⟨id,cs,rfl,-,hg,r⟩ | ⟨t,cs,rfl,ht,r⟩
 ·obtain ⟨cs',e,r'⟩:=Rp.snap (n:=n) d r hn (by show _<=24;omega)
  obtain ⟨m,e2,l2⟩:=Rp.tag (n:=ay) r' (by show _<=24;omega)
  refine ⟨.tptr (Nat.max d (Nat.max m 0)) sz [cs'] 0 0,?_,.inr ⟨_,cs',rfl,?_,r'⟩⟩
  ·simp only[Hx.snap,hg,show Nat.beq 0 0=true from rfl,aE,e,dO,eN,e2]
  ·show max d (max m 0)<=max k d
   omega
 ·exact ⟨.tptr t sz [cs] 0 0,rfl,.inr ⟨t,cs,rfl,by omega,Rp.mono r (fun i hi=>hi.elim) (by omega)⟩⟩
theorem B1 {α:Type} [Rp α]{x:α}{sz:Nat}{k:Nat}{h:H}{v:AV}{n:Nat}(r:F7 x sz NoP k h v):∃m,c_ (n+1) v=some m/\m<=k:=by
 rcases r with ⟨id,cs,rfl,hP,-⟩ | ⟨t,cs,rfl,ht,r⟩
 ·exact hP.elim
 ·exact ⟨t,rfl,ht⟩
def MtV (y:QnM)(e:List Int):VS:=fun P k h v=>∃p q,v=.clo N.ah [] [p,q]/\F7 y 4 P k h p/\F7 e 1 P k h q
theorem Ic (y:QnM)(e:List Int):Snb (MtV y e) 2:=by
 refine ⟨fun {P k h v n} d r hn=>?_,fun {k h v n} r hn=>?_⟩
 ·obtain ⟨p,q,rfl,r1,r2⟩:=r
  obtain ⟨n,rfl⟩:∃q,n=q+2:=⟨n - 2,by omega⟩
  obtain ⟨p',e1,r1'⟩:=zB (n:=n) d r1 (Nat.le_trans (show Rp.dp QnM<=20 by decide) (by omega))
  obtain ⟨q',e2,r2'⟩:=zB (n:=n) d r2 (Nat.le_trans (show Rp.dp (List Int)<=20 by decide) (by omega))
  refine ⟨.clo N.ah [] [p',q'],?_,p',q',rfl,r1',r2'⟩
  simp only[Hx.snap,aE] at e1 e2 ⊢
  rw[e1,e2]
 ·obtain ⟨p,q,rfl,r1,r2⟩:=r
  obtain ⟨n,rfl⟩:∃q,n=q+2:=⟨n - 2,by omega⟩
  obtain ⟨m1,e1,l1⟩:=B1 (n:=n) r1
  obtain ⟨m2,e2,l2⟩:=B1 (n:=n) r2
  refine ⟨Nat.max m1 (Nat.max m2 0),?_,by show max m1 (max m2 0)<=k;omega⟩
  show eN (c_ (n+1)) [p,q]=_
  simp only[eN,e1,e2]
theorem rU {d kk:Nat}{g:G}{v w:AV}{y:QnM}{e:List Int}(hd:0<d)(hm:Agg y NoP 0 g.h v)(hw:SlR NoP kk g.h e w)(hk:kk<d:=by omega) :
  ∃cs z t1 t2,ac C0 d N.aJ [v,w] g=.val (.clo N.ah [] [.tptr t1 4 [cs] 0 0,.tptr t2 1 [[z]] 0 0])/\Rp.rp NoP kk .nil y cs/\SlR NoP kk .nil e z:=by
 have e0:=iW d hm
 obtain ⟨cs,rfl,hc⟩:=hm
 obtain ⟨a,b,c,rfl,h1,h2,h3⟩:=rR.1 hc
 have key:∃r,ac C0 d N.aJ [.agg [.int .i64 y.1.grain,a,b,c],w] g=.val r/\MtV y e NoP kk .nil r:=by
  rw[ii]
  refine aR iL (xs:=[.agg [.int .i64 y.1.grain,a,b,c],w]) (by simp only[aE,e0,xu d hw]) (by simp[bV]) (Ic y e) (by decide) hk ?_
  simp only[sz,simprocAttr,bV,dj,FS hw]
  refine ⟨fun _=>True,_,_,rfl,.inl ⟨0,_,rfl,trivial,by simp[sx,H.get_put],Rp.tree hc (Nat.zero_le _)⟩,.inl ⟨1,[w],rfl,trivial,by simp[sx],?_⟩⟩
  exact ⟨w,rfl,hw.wide (Nat.le_refl _)⟩
 obtain ⟨r,hr,p,q,rfl,r1,r2⟩:=key
 rcases r1 with ⟨id,cs,rfl,hP,-⟩ | ⟨t,cs,rfl,ht,r1⟩
 ·exact hP.elim
 rcases r2 with ⟨id,cs,rfl,hP,-⟩ | ⟨t2,cs2,rfl,ht2,r2⟩
 ·exact hP.elim
 obtain ⟨z,rfl,hz⟩:=oe.1 r2
 exact ⟨cs,z,t,t2,hr,r1,hz⟩
theorem EO {cs vs:List Int}(h:InC cs vs)(hc:∀c∈cs,1<=c){i:Nat}{x c:Int}(hi:vs[i]?=some x)(hci:cs[i]?=some c)(hx:x≠c - 1):InC cs (vs.take i++(x+1)::List.replicate (vs.length - (i+1)) 0):=by
 have hil:=(List.getElem?_eq_some_iff.1 hi).1
 have hl:=h.len
 refine xL (by simp;omega) fun j c' v hj hv=>?_
 obtain ⟨v',h1,h2,h3⟩:=h.get hj
 have hcp:=hc c' (List.mem_of_getElem? hj)
 by_cases h4:j<i
 ·rw[List.getElem?_append_left (by simp;omega),List.getElem?_take_of_lt h4] at hv
  rw[h1] at hv;injection hv with hv;omega
 ·rw[List.getElem?_append_right (by simp;omega)] at hv
  rw[List.length_take,Nat.min_eq_left (by omega)] at hv
  by_cases h5:j=i
  ·subst h5
   rw[Nat.sub_self] at hv
   simp at hv
   rw[hi] at h1;injection h1 with h1
   rw[hci] at hj;injection hj with hj
   omega
  ·obtain ⟨m,hm⟩:∃m,j - i=m+1:=⟨j - i - 1,by omega⟩
   rw[hm,List.getElem?_cons_succ] at hv
   have:=List.mem_of_getElem? hv
   rw[List.mem_replicate] at this
   omega
theorem EB {cs:List Int}(hc:∀c∈cs,1<=c):InC cs (List.replicate cs.length 0) :=
 xL (by simp) fun j c v hj hv=>by
  have:=List.mem_of_getElem? hv
  rw[List.mem_replicate] at this
  have:=hc c (List.mem_of_getElem? hj)
  omega
theorem wC {vs:List Int}{m:Nat}(h:m<vs.length):(vs.take (m+1)++List.replicate (vs.length - (m+1)) 0).set m 0=vs.take m++List.replicate (vs.length - m) 0:=by
 rw[List.take_succ_eq_append_getElem h,List.append_assoc,List.set_append_right _ _ (by simp;omega),List.length_take,Nat.min_eq_left (by omega),Nat.sub_self]
 rw[show vs.length - m=(vs.length - (m+1))+1 by omega,List.replicate_succ]
 rfl
theorem xz {vs:List Int}{m:Nat}(h:m<vs.length)(y:Int):(vs.take (m+1)++List.replicate (vs.length - (m+1)) 0).set m y=vs.take m++y::List.replicate (vs.length - (m+1)) 0:=by
 rw[List.take_succ_eq_append_getElem h,List.append_assoc,List.set_append_right _ _ (by simp;omega),List.length_take,Nat.min_eq_left (by omega),Nat.sub_self]
 rfl
structure OdoJ (n:Net) (vs:List Int) (L:List (Nat×AV)) (u:AV) (g0:G) (m:Nat) (t:T) (g:G):Prop where
 st:tat t 6=.int .i64 ((m:Int) - 1)
 ss:St t L
 ow:Own g g0.nx u 1 ((vs.take m++List.replicate (vs.length - m) 0).map ci)
 mx:∀(j:Nat) (c:Int),m<=j->(S.aa n)[j]?=some c->vs[j]?.getD 0=c - 1
def LM (id:Nat)(gr:Int)(b fl S_ w u:AV)(k t1 t2:Nat):List (Nat×AV):=[(0,.yld id),(1,.tptr t1 4 [[.int .i64 gr,b,fl,S_]] 0 0),(2,.tptr t2 1 [[w]] 0 0),(4,u),(5,.int .i64 (k:Int))]
theorem Dl {d id k m t1 t2 ky:Nat}{n:Net}{b fl S_ w u:AV}{vs:List Int}{Q:QT}{t:T}{g g0:G}(hr:NR n)(hN:SlR NoP ky .nil n.nodes b)(hc:InC (S.aa n) vs)(hm:m<=n.nodes.length)
  (h0:OdoJ n vs (LM id n.grain b fl S_ w u k t1 t2) u g0 m t g)
  (fin:∀m' t g',m'<=n.nodes.length->OdoJ n vs (LM id n.grain b fl S_ w u k t1 t2) u g0 m' t g'->g.nx<=g'.nx->(∀i,vid u≠some i->g'.h.get i=g.h.get i)->(m'=0\/∃x c,vs[m' - 1]?=some x/\(S.aa n)[m' - 1]?=some c/\x≠c - 1/\0<m')->Q (.exit 2) t [] g') :
  wpL (wp C0 d none a_) Q t [] g:=by
 obtain ⟨rows,r1,r2,r3,r4⟩:=hN.all
 have r1:∀h',ah h' 3 b=some rows:=r1
 have hvl:=hc.len
 rw[aW] at hvl
 have hl8:=hr.l2
 refine nG (fun m t df g'=>df=[]/\m<=n.nodes.length/\OdoJ n vs (LM id n.grain b fl S_ w u k t1 t2) u g0 m t g'/\g.nx<=g'.nx/\∀i,vid u≠some i->g'.h.get i=g.h.get i) m ⟨rfl,hm,h0,Nat.le_refl _,fun _ _=>rfl⟩ ?_
 rintro m t df g1 ⟨rfl,hm,⟨h6,⟨h0,h1,h2,h4,h5,-⟩,how,hmx⟩,hnx,hfr⟩
 simp only[a_]
 cases m with
 | zero =>
  have c1:¬((0:Int)<=((0:Nat):Int) - 1):=by omega
  simp only[sz,simprocAttr,h6,c1]
  refine fin 0 _ _ (Nat.zero_le _) ⟨?_,?_,?_,hmx⟩ ?_ ?_ (.inl rfl)
  ·simp[sx,h6]
  ·simp[St,LM,sx,h0,h1,h2,h4,h5]
  ·exact how
  ·exact hnx
  ·exact hfr
 | succ m =>
  have c1:(0:Int)<=((m+1:Nat):Int) - 1:=by omega
  have e1:((m+1:Nat):Int) - 1=(m:Int):=by omega
  rw[e1] at c1 h6
  obtain ⟨x,hx,-,-⟩:=aw (l:=n.nodes) (j:=m) (by omega)
  obtain ⟨row,q1,q2⟩:=r3 m x hx
  obtain ⟨pa,ra,rfl,-,-⟩:=dN.1 q2
  have hlt:m<rows.length:=by omega
  have hry:=r4 (by omega)
  have hci:(S.aa n)[m]?=some x.card:=by simp[S.aa,hx]
  obtain ⟨v,hv,hv0,hv1⟩:=hc.get hci
  have hcx:=hr.card x (List.mem_of_getElem? hx)
  have u1:m<((vs.take (m+1)++List.replicate (vs.length - (m+1)) 0).map ci).length:=by simp;omega
  have u2:((vs.take (m+1)++List.replicate (vs.length - (m+1)) 0).map ci)[m]?=some (ci v):=by
   rw[List.getElem?_map,List.getElem?_append_left (by simp;omega),List.getElem?_take_of_lt (by omega),hv];rfl
  have ru:=how.rows
  have w1:IntKind.wrap .i64 (x.card - 1)=x.card - 1:=aG (by omega) (by omega)
  by_cases c2:v=x.card - 1
  ·simp only[sz,simprocAttr,h6,h1,h4,c1,ru,u1,u2,r1,hlt,q1,hry,qv,cZ,ci,w1,c2]
   refine bL (v:=u) (sz:=1) (n:=1) (i:=m) (off:=0) (x:=.int .i64 0) (row':=ci 0) how u2 rfl rfl rfl fun g4 hu4 n4 f4=>?_
   rw[<-List.map_set,wC (by omega)] at hu4
   have w2:IntKind.wrap .i64 ((m:Int) - 1)=(m:Int) - 1:=aG (by omega) (by omega)
   simp only[sz,simprocAttr,h6,w2]
   refine ⟨m,by omega,by omega,⟨by simp[sx],by simp[St,LM,sx,h0,h1,h2,h4,h5],hu4,fun j c hj hc'=>?_⟩,by omega,fun i hi=>by rw[f4 i hi,hfr i hi]⟩
   by_cases e:j=m
   ·subst e
    rw[hci] at hc';injection hc' with hc'
    rw[hv,Option.getD_some];omega
   ·exact hmx j c (by omega) hc'
  ·simp only[sz,simprocAttr,h6,h1,h4,c1,ru,u1,u2,r1,hlt,q1,hry,qv,cZ,ci,w1,c2]
   refine fin (m+1) _ _ hm ⟨?_,?_,?_,hmx⟩ ?_ ?_ (.inr ⟨v,x.card,hv,hci,c2,by omega⟩)
   ·simp[sx,h6]
   ·simp[St,LM,sx,h0,h1,h2,h4,h5]
   ·exact how
   ·exact hnx
   ·exact hfr
theorem Iy {a b u:AV}(ha:a.cells=[a]/\a.isTup=false)(hb:b.cells=[b]/\b.isTup=false)(hu:u.cells=[u]/\u.isTup=false):dY [.int .i64 0,.int .i64 0,.nils] [((0,1),a),((1,1),b),((2,1),u)]=some [a,b,u]:=by
 simp[dY,ha,hb,hu,dG]
 rfl
theorem Da {d id t1 t2 ky ke:Nat}{n:Net}{y:QnM}{e:List Int}{b fl S_ w:AV}{g0:G}{K:AV->G->Prop}(hd:0<d)(hr:NR n)(hq:QnOk n y)(hcs:Rp.rp NoP ky .nil y [.int .i64 n.grain,b,fl,S_])(hw:SlR NoP ke .nil e w)(hel:e.length<=n.nodes.length)
  (J:Nat->H->Prop) (E:G->Prop) (hJ:∀j h h',(∀i,i<g0.nx->h'.get i=h.get i)->J j h->J j h')
  (skip:∀(j:Nat) (h:H),j<S.aC n->S.jm (S.ap (S.aa n) j) e=false->J j h->J (j+1) h)
  (step:∀(j:Nat) (u:AV) (g:G) (K':AV->G->Prop) (D:ADf->Prop),j<S.aC n->S.jm (S.ap (S.aa n) j) e=true->g0.nx<=g.nx->J j g.h->SlR (fun i=>g0.nx<=i/\i<g.nx) 0 g.h (S.ap (S.aa n) j) u ->
   (∀g',J (j+1) g'.h->g.nx<=g'.nx->(∀i,g0.nx<=i->i<g.nx->g'.h.get i=g.h.get i)->K' (.bool true) g')->(∀g',E g'->K' (.bool false) g')->(bU (I C0) d id [.agg [.int .i64 (j:Int),.int .i64 (S.aO n (S.ap (S.aa n) j)),u]] g).sat K' g D)
  (h0:J 0 g0.h) (fin:∀g',J (S.aC n) g'.h->g0.nx<=g'.nx->K (.tup []) g') (finE:∀g',E g'->K (.tup []) g') :
  wp C0 d none aA.code (fnQ C0 d aA.res K) (bN 0 [.yld id,.tptr t1 4 [[.int .i64 n.grain,b,fl,S_]] 0 0,.tptr t2 1 [[w]] 0 0] .nil) [] g0:=by
 obtain ⟨b',fl',S',e1,hN,hfl,hS⟩:=rR.1 hcs
 injection e1 with e1 e2
 injection e2 with e2 e3
 injection e3 with e3 e4
 injection e4 with e4 e5
 subst e2;subst e3;subst e4
 have hN:SlR NoP ky .nil n.nodes b:=by rw[<-hq.net];exact hN
 have hl8:=hr.l2
 have hl1:=hr.l1
 obtain ⟨W1,W2,W3⟩:=hr.wl
 have hcs1:=fun c hc=>(hr.cs c hc).1
 have nl:=hN.len
 have hcl:=aW n
 obtain ⟨Qf,hQf⟩:∃Qf,Qf=fnQ C0 d aA.res K:=⟨_,rfl⟩
 rw[<-hQf]
 simp only[sz,simprocAttr,aA,qv,cZ,nl]
 refine sS (b:=g0.nx) (n:=n.nodes.length) (by unfold be;omega) (by unfold be;omega) (Nat.le_refl _) fun u g1 hu n1 fr1 v1=>?_
 simp only[sz,simprocAttr]
 have hul:∀(g:G) (l:List Int),l.length=n.nodes.length->Own g g0.nx u 1 (l.map ci)->∀g2:G,iA .slice u g2=.val (.int .i64 (n.nodes.length:Int)):=fun g l hl ho g2=>by rw[kZ ho.rows];simp[hl]
 obtain ⟨INV,hINV⟩:∃INV:Nat->PT,INV=(fun m t df g=>df=[]/\∃(j:Nat) (vs:List Int),m=S.aC n - j/\j<S.aC n/\InC (S.aa n) vs/\S.af (S.aa n) vs=(j:Int)/\St t (LM id n.grain b fl S_ w u j t1 t2)/\Own g g0.nx u 1 (vs.map ci)/\J j g.h/\g0.nx<=g.nx):=⟨_,rfl⟩
 refine nG INV (S.aC n) ?_ ?_
 ·rw[hINV]
  exact ⟨rfl,0,List.replicate n.nodes.length 0,rfl,by omega,by rw[<-hcl];exact EB hcs1,by rw[ub];rfl,by simp[St,LM,sx],by simpa [ci] using hu,hJ 0 _ _ (fun i hi=>fr1 i hi) h0,by omega⟩
 intro m t df g hI
 have hI2:=hI
 rw[hINV] at hI2
 obtain ⟨rfl,j,vs,rfl,hj,hin,hidx,⟨h0,h1,h2,h4,h5,-⟩,ho,hJj,hnx⟩:=hI2
 clear hI
 have hvl:=hin.len
 rw[aW] at hvl
 have hval:S.ap (S.aa n) (j:Int)=vs:=by rw[<-hidx];exact zP hcs1 hin
 have hvu:vid u=some g0.nx:=v1
 have hsl:SlR (fun i=>g0.nx<=i/\i<g.nx) 0 g.h vs u:=Own.sl (α:=Int) ho (by omega) (All2.of_map (fun a=>aC.2 rfl) _) fun i hi=>ho.lt hi
 have hmt:=uA (d:=d) (g:=g) (v:=u) (w:=w) (vals:=vs) (e:=e) hd hsl (hw.tree (h':=g.h) (Nat.le_refl _)) (by omega)
 have hlu:=hul g vs hvl ho
 have w1:IntKind.wrap .i64 ((n.nodes.length:Int) - 1)=(n.nodes.length:Int) - 1:=aG (by omega) (by omega)
 obtain ⟨R,hR⟩:∃R,R=sQ [oM 28 4,oN 29 28,o 30 (.bin .sub (.t 29) (qI 1)),oM 6 30] (.seq (.blk 2 (.loop a_)) ba):=⟨_,rfl⟩
 simp only[cF]
 rw[<-hR,dh,wL]
 obtain ⟨Q1,hQ1⟩:∃Q1,Q1=kB 1 (kS (wp C0 d none br (kL INV (S.aC n - j) (kB 0 Qf))) (kL INV (S.aC n - j) (kB 0 Qf))):=⟨_,rfl⟩
 rw[<-hQ1]
 have rest:∀(t:T) (g:G),St t (LM id n.grain b fl S_ w u j t1 t2)->Own g g0.nx u 1 (vs.map ci)->J (j+1) g.h->g0.nx<=g.nx->wp C0 d none R Q1 t [] g:=by
  rintro t g ⟨h0,h1,h2,h4,h5,-⟩ ho hJj hnx
  rw[hR,hQ1]
  simp only[sz,simprocAttr,h4,hlu,w1]
  refine Dl (t1:=t1) (t2:=t2) (id:=id) (k:=j) (m:=n.nodes.length) (n:=n) (b:=b) (fl:=fl) (S_:=S_) (w:=w) (u:=u) (vs:=vs) (g0:=g0) hr hN hin (Nat.le_refl _) ⟨by simp[sx],by simp[St,LM,sx,h0,h1,h2,h4,h5],?_,fun i c hi hc=>?_⟩ ?_
  ·rw[List.take_of_length_le (by omega),show vs.length - n.nodes.length=0 by omega]
   simpa using ho
  ·have:=(List.getElem?_eq_some_iff.1 hc).1
   omega
  rintro m' t2 g2 hm' ⟨h6,⟨h0,h1,h2,h4,h5,-⟩,ho2,hmx⟩ hn2 hf2 hcase
  have hJ2:J (j+1) g2.h:=hJ _ _ _ (fun i hi=>hf2 i fun e=>by rw[hvu] at e;injection e with e;omega) hJj
  rcases hcase with rfl | ⟨x,c,hx,hc,hxc,hm0⟩
  ·have hlast:j+1=S.aC n:=by
    have:=xr (cs:=S.aa n) (vs:=vs) hin.len.symm fun i c hc=>hmx i c (Nat.zero_le _) hc
    omega
   have c1:(((0:Nat):Int) - 1<0):=by omega
   rw[hQf]
   simp only[sz,simprocAttr,ba,aA,h6,c1]
   rw[hlast] at hJ2
   exact fin g2 hJ2 (by omega)
  ·obtain ⟨i,rfl⟩:∃i,m'=i+1:=⟨m' - 1,by omega⟩
   rw[Nat.add_sub_cancel] at hx hc
   have hil:=(List.getElem?_eq_some_iff.1 hx).1
   have e1:((i+1:Nat):Int) - 1=(i:Int):=by omega
   rw[e1] at h6
   have c1:¬((i:Int)<0):=by omega
   have u1:i<((vs.take (i+1)++List.replicate (vs.length - (i+1)) 0).map ci).length:=by simp;omega
   have u2:((vs.take (i+1)++List.replicate (vs.length - (i+1)) 0).map ci)[i]?=some (ci x):=by
    rw[List.getElem?_map,List.getElem?_append_left (by simp;omega),List.getElem?_take_of_lt (by omega),hx];rfl
   have ru:=ho2.rows
   obtain ⟨x',hx',hx0,hx1⟩:=hin.get hc
   rw[Cf hx' hx] at hx0 hx1
   have hcb:=hr.cs c (List.mem_of_getElem? hc)
   have w2:IntKind.wrap .i64 (x+1)=x+1:=aG (by omega) (by omega)
   simp only[sz,simprocAttr,ba,h6,c1,h4,ru,u1,u2,ci,w2]
   refine bL (v:=u) (sz:=1) (n:=1) (i:=i) (off:=0) (x:=.int .i64 (x+1)) (row':=ci (x+1)) ho2 u2 rfl rfl rfl fun g4 hu4 n4 f4=>?_
   rw[<-List.map_set,xz hil] at hu4
   have hin2:=EO hin hcs1 hx hc hxc
   have hidx2:=FI (cs:=S.aa n) (vs:=vs) hin.len.symm hx fun k c hk hc=>hmx k c (by omega) hc
   rw[hidx] at hidx2
   have hlt2:=fc hr.cs hin2
   have w3:IntKind.wrap .i64 ((j:Int)+1)=((j+1:Nat):Int):=by rw[aG (by omega) (by omega)];rfl
   simp only[sz,simprocAttr,br,h5,w3]
   refine ⟨S.aC n - (j+1),by omega,?_⟩
   rw[hINV]
   refine ⟨rfl,j+1,_,rfl,by omega,hin2,by rw[hidx2];rfl,by simp[St,LM,sx,h0,h1,h2,h4],hu4,hJ _ _ _ (fun i hi=>f4 i fun e=>by rw[hvu] at e;injection e with e;omega) hJ2,by omega⟩
 cases hm:S.jm vs e with
 | false =>
  rw[hm] at hmt
  rw[dh]
  simp only[sz,simprocAttr,h4,h2,cZ,hmt]
  exact rest _ _ (by simp[St,LM,sx,h0,h1,h2,h4,h5]) ho (skip j _ hj (by rw[hval];exact hm) hJj) hnx
 | true =>
  rw[hm] at hmt
  rw[dh]
  have hwt:=Cs (d:=d) (g:=g) (v:=.agg [.int .i64 n.grain,b,fl,S_]) (w:=u) (vals:=vs) (y:=y) hd hr ⟨_,rfl,Rp.tree hcs (Nat.le_refl _)⟩ hq hsl hin
  simp only[sz,simprocAttr,h0,h1,h5,h4,h2,cZ,hmt,hwt,Iy (a:=.int .i64 (j:Int)) (b:=.int .i64 (S.aO n vs)) ⟨rfl,rfl⟩ ⟨rfl,rfl⟩ ho.cell]
  have st:=fun K' D=>step j u g K' D hj (by rw[hval];exact hm) hnx hJj (by rw[hval];exact hsl)
  rw[hval] at st
  show (bU (I C0) d id [.agg [.int .i64 (j:Int),.int .i64 (S.aO n vs),u]] g).sat _ _ _
  refine st _ _ (fun g' hJ' hn' hf'=>?_) fun g' hE=>?_
  ·simp only[sz,simprocAttr]
   exact rest _ _ (by simp[St,LM,sx,h0,h1,h2,h4,h5]) (ho.fr hn' fun i hi=>hf' i (ho.lt hi).1 (ho.lt hi).2) hJ' (by omega)
  ·rw[hQ1,hQf]
   simp only[sz,simprocAttr,aA]
   exact finE g' hE
theorem Dr {C:Cfg}{d id nt:Nat}{t:T}{ps:List Nat}{assign body:Code}{a b:SC}{dfr:Nat}{args:List AV}{g:G}{K:AV->G->Prop}{D:ADf->Prop}{t':T}
  (hg:g.h.get id=.loop nt t ps assign body dfr .ready none) (ha:cU C nt assign=a) (hb:cU C nt body=b) (hp:cG t nt ps args=some t')
  (h:wp C d (some id) a (fun e t1 df g1=>e=.norm/\df=[]/\g1.h.get id=.loop nt t ps assign body dfr .ready none /\
   wp C d (some id) b (fun e _ df g2=>df=[]/\g2.h.get id=.loop nt t ps assign body dfr .busy none/\((e=.norm/\K (.bool true) (g2.put id (.loop nt t ps assign body dfr .ready none)))\/(e=.ret/\K (.bool false) (g2.put id (.loop nt t ps assign body dfr .done (some .ret))))))
    t1 [] (g1.put id (.loop nt t ps assign body dfr .busy none))) t' [] g) :
  (bU (I C) d id args g).sat K g D:=by
 subst ha;subst hb
 unfold bU
 rw[show g.get id=_ from hg]
 dsimp only
 rw[hp]
 dsimp only
 have h1:=oq h
 cases hc:(I C).code nt d (some id) assign t' [] g with
 | fail=>rw[hc] at h1;exact h1.elim
 | ok e t1 df g1 =>
  rw[hc] at h1
  obtain ⟨rfl,rfl,hg1,h2⟩:=h1
  dsimp only
  rw[show g1.get id=_ from hg1]
  dsimp only
  have h3:=oq h2
  cases hc2:(I C).code nt d (some id) body t1 [] (g1.put id (.loop nt t ps assign body dfr .busy none)) with
  | fail=>rw[hc2] at h3;exact h3.elim
  | ok e t2 df2 g2 =>
   rw[hc2] at h3
   obtain ⟨rfl,h4,h5⟩:=h3
   dsimp only
   rw[show g2.get id=_ from h4]
   rcases h5 with ⟨rfl,h5⟩ | ⟨rfl,h5⟩<;>exact h5
theorem xP:C0.ext N.ah=none:=by kernel_rfl
theorem vy {d nt p r t1 t2 ky ke:Nat}{n:Net}{y:QnM}{e:List Int}{cs:List AV}{w:AV}{ca cb:SC}{Q:QT}{t:T}{df:List ADf}{g:G}(hd:0<d)(hr:NR n)(hq:QnOk n y)(hcs:Rp.rp NoP ky .nil y cs)(hw:SlR NoP ke .nil e w)(hel:e.length<=n.nodes.length)
  (hv:tat t r=.clo N.ah [] [.tptr t1 4 [cs] 0 0,.tptr t2 1 [[w]] 0 0]) (hp:p<nt)
  (J:Nat->H->Prop) (E:H->Prop) (hJ:∀j h h',(∀i,i<g.nx->h'.get i=h.get i)->J j h->J j h') (hE:∀h h',(∀i,i<g.nx->h'.get i=h.get i)->E h->E h') (h0:J 0 g.h)
  (skip:∀(j:Nat) (h:H),j<S.aC n->S.jm (S.ap (S.aa n) j) e=false->J j h->J (j+1) h)
  (step:∀(j:Nat) (u:AV) (g1:G),j<S.aC n->S.jm (S.ap (S.aa n) j) e=true->J j g1.h->g.nx+2<=g1.nx->SlR (fun i=>g.nx+2<=i/\i<g1.nx) 0 g1.h (S.ap (S.aa n) j) u ->
   wp C0 d (some (g.nx+1)) ca (fun e t1 df g1'=>e=.norm/\df=[]/\Fr g1 g1'/\∀g2:G,g2.nx=g1'.nx->(∀i,i≠g.nx+1->g2.h.get i=g1'.h.get i) ->
    wp C0 d (some (g.nx+1)) cb (fun e _ df g3=>df=[]/\RowQ g.nx g2 g3 e (J (j+1) g3.h) (E g3.h)) t1 [] g2)
    (gq t p (.agg [.int .i64 (j:Int),.int .i64 (S.aO n (S.ap (S.aa n) j)),u])) [] g1)
  (fin:∀g',J (S.aC n) g'.h->g.nx+2<=g'.nx->g'.h.get g.nx=.dfr true->Q .norm t (.mark g.nx::df) g')
  (finE:∀g',E g'.h->g.nx+2<=g'.nx->g'.h.get g.nx=.dfr true->Q .ret t (.mark g.nx::df) g') :
  wp C0 d none (.rng nt (.t r) [p] ca cb) Q t df g:=by
 obtain ⟨b,fl,S_,rfl,-,-,-⟩:=rR.1 hcs
 rw[hq.net] at hv hcs
 refine tD (fn:=N.ah) (first:=[]) (cap:=[.tptr t1 4 [[.int .i64 n.grain,b,fl,S_]] 0 0,.tptr t2 1 [[w]] 0 0]) (s:=aA) hv xP ic (by simp[aA]) ?_
 intro assign body ha hb
 have e1:((g.new (.dfr true)).new (.loop nt t [p] assign body g.nx .ready none)).nx=g.nx+2:=by simp
 refine Da (g0:=(g.new (.dfr true)).new (.loop nt t [p] assign body g.nx .ready none)) (id:=g.nx+1) hd hr hq hcs hw hel
  (fun j h=>J j h/\h.get g.nx=.dfr true/\h.get (g.nx+1)=.loop nt t [p] assign body g.nx .ready none)
  (fun g'=>E g'.h/\g'.h.get g.nx=.dfr true/\g'.h.get (g.nx+1)=.loop nt t [p] assign body g.nx .done (some .ret)/\g.nx+2<=g'.nx) ?_ ?_ ?_ ?_ ?_ ?_
 ·rintro j h h' hh ⟨a1,a2,a3⟩
  rw[e1] at hh
  exact ⟨hJ j h h' (fun i hi=>hh i (by omega)) a1,by rw[hh _ (by omega),a2],by rw[hh _ (by omega),a3]⟩
 ·rintro j h hj hm ⟨a1,a2,a3⟩
  exact ⟨skip j h hj hm a1,a2,a3⟩
 ·rintro j u g1 K' D hj hm hn ⟨a1,a2,a3⟩ hsl kk kE
  rw[e1] at hn kk hsl
  refine Dr a3 ha hb (t':=gq t p (.agg [.int .i64 (j:Int),.int .i64 (S.aO n (S.ap (S.aa n) j)),u])) ?_ ?_
  ·simp only[cG,aa,Nat.blt_eq,if_pos hp];rfl
  ·refine cq _ (step j u g1 hj hm a1 (by omega) hsl) ?_
   rintro e t1 df g1' ⟨rfl,rfl,hfr,h⟩
   have hl0:g.nx+1<g1.nx:=by omega
   have hl:g.nx+1<g1'.nx:=Nat.lt_of_lt_of_le hl0 hfr.1
   have a2':g1'.h.get g.nx=.dfr true:=by rw[hfr.2 _ (by omega),a2]
   have a3':g1'.h.get (g.nx+1)=.loop nt t [p] assign body g.nx .ready none:=by rw[hfr.2 _ hl0,a3]
   refine ⟨rfl,rfl,a3',?_⟩
   refine cq _ (h (g1'.put (g.nx+1) (.loop nt t [p] assign body g.nx .busy none)) (by simp) (fun i hi=>by simp[H.get_put,hi])) ?_
   rintro e t2 df g3 ⟨rfl,⟨b2,b3,b1⟩⟩
   have b4:g3.h.get (g.nx+1)=.loop nt t [p] assign body g.nx .busy none:=by rw[b3 _ (by omega) (by simpa using hl)];simp[H.get_put]
   have b5:g3.h.get g.nx=.dfr true:=by
    rw[b3 _ (by omega) (by simp;omega)];simp[H.get_put,a2']
   refine ⟨rfl,b4,?_⟩
   have b2':g1'.nx<=g3.nx:=by simpa using b2
   have hf1:=hfr.1
   rcases b1 with ⟨rfl,b1⟩ | ⟨rfl,b1⟩
   ·refine .inl ⟨rfl,kk _ ⟨hJ _ g3.h _ (fun i hi=>by simp[H.get_put,show ¬i=g.nx+1 by omega]) b1,?_,?_⟩ (by simp;omega) fun i h1 h2=>?_⟩
    ·simp[H.get_put,b5]
    ·simp[H.get_put]
    ·have hne:¬i=g.nx+1:=by omega
     have:=b3 i (by omega) (by simp;omega)
     simp[H.get_put,hne] at this ⊢
     rw[this,hfr.2 i h2]
   ·refine .inr ⟨rfl,kE _ ⟨hE g3.h _ (fun i hi=>by simp[H.get_put,show ¬i=g.nx+1 by omega]) b1,?_,?_,?_⟩⟩
    ·simp[H.get_put,b5]
    ·simp[H.get_put]
    ·simp;omega
 ·refine ⟨hJ 0 g.h _ (fun i hi=>?_) h0,?_,?_⟩
  ·simp[H.get_put,show ¬i=g.nx+1 by omega,show ¬i=g.nx by omega]
  ·simp[H.get_put]
  ·simp[H.get_put]
 ·rintro g' ⟨a1,a2,a3⟩ hn
  rw[e1] at hn
  refine ⟨_,_,_,_,_,_,.inl ⟨a3,fin _ (hJ _ g'.h _ (fun i hi=>by simp[H.get_put,show ¬i=g.nx+1 by omega]) a1) (by simpa using hn) ?_⟩⟩
  simp[H.get_put,a2]
 ·rintro g' ⟨a1,a2,a3,hn⟩
  refine ⟨_,_,_,_,_,_,.inr ⟨a3,finE _ (hE g'.h _ (fun i hi=>by simp[H.get_put,show ¬i=g.nx+1 by omega]) a1) (by simpa using hn) ?_⟩⟩
  simp[H.get_put,a2]
theorem fC {n:Net}{e:List Int}(h:S.aq n e=true):e.length=n.nodes.length/\∀x∈e,-1<=x:=by
 simp only[S.aq,Bool.and_eq_true,decide_eq_true_eq,List.all_eq_true] at h
 refine ⟨h.1,fun x hx=>?_⟩
 obtain ⟨i,hi,he⟩:=List.mem_iff_getElem.1 hx
 have:=(h.2 i (List.mem_range.2 hi)).1
 rw[List.getElem?_eq_getElem hi,he] at this
 exact this
def S.pe (n:Net)(e:List Int)(w:Nat):Bool:=S.aS (S.ap (S.aa n) (w:Int)) e
theorem Fl (n:Net)(e:List Int):S.aT n e=S.an n (S.pe n e) (S.aC n):=rfl
theorem wP {n:Net}(h:NR n){p:Nat->Bool}{j:Nat}(hj:j<=1024):0<=S.an n p j/\S.an n p j<=171992678400000000:=by
 have:=px h p j
 omega
theorem HN (g:G)(o o':AObj):Fr g ((g.new o).put g.nx o'):=⟨by simp,fun i hi=>by simp[H.get_put,show ¬i=g.nx by omega]⟩
theorem Bv {d kk:Nat}{g:G}{v w:AV}{n:Net}{y:QnM}{e:List Int}(hd:0<d)(hr:NR n)(hm:Agg y NoP 0 g.h v)(hq:QnOk n y)(he:SlR NoP kk g.h e w)(hev:S.aq n e=true)(hk:kk<=d:=by omega) :
  ac C0 d N.aV [v,w] g=.val (.int .i64 (S.aT n e)):=by
 have e0:=iW d hm
 have ew:=xu d he
 obtain ⟨cs,rfl,hcs⟩:=hm
 obtain ⟨b,fl,S_,rfl,-,-,-⟩:=rR.1 hcs
 obtain ⟨el,ege⟩:=fC hev
 obtain ⟨W1,W2,W3⟩:=hr.wl
 rw[j4]
 refine mj lV (xs:=[.agg [.int .i64 y.1.grain,b,fl,S_],w]) (by simp only[aE,e0,ew]) (by simp[di]) hd ?_
 simp only[sz,simprocAttr,di]
 unfold eX
 refine eR (P:=fun t' df g'=>df=[]/\g'.nx=2/\g'.h.get 0=.cells 4 [[.int .i64 y.1.grain,b,fl,S_]] 0 false false/\g'.h.get 1=.cells 1 [[.int .i64 0]] 0 false false/\St t' [(1,w),(2,.hptr 0 0 0 0),(5,.hptr 1 0 0 0)]) ?_ ?_
 ·simp only[sz,simprocAttr]
  simp[St,sx]
 rintro t df g0 ⟨rfl,f2,f0,f1,h1,h2,h5,-⟩
 obtain ⟨cs,z,t1,t2,ez,hcs',hz⟩:=rU (d:=d+1) (g:=g0) (y:=y) (e:=e) (v:=.agg [.int .i64 y.1.grain,b,fl,S_]) (w:=w) (Nat.succ_pos d) ⟨_,rfl,Rp.tree hcs (Nat.le_refl _)⟩ (he.tree (Nat.le_refl _))
 rw[dh,dh]
 simp only[sz,simprocAttr,h1,h2,f0,ez]
 refine vy (t1:=t1) (t2:=t2) (n:=n) (y:=y) (e:=e) (cs:=cs) (w:=z) (Nat.succ_pos d) hr hq hcs' hz (by omega) (by simp[sx]) (by decide)
  (fun j h=>h.get 1=.cells 1 [[.int .i64 (S.an n (S.pe n e) j)]] 0 false false) (fun _=>False) (fun j h h' hh h1=>by rw[hh 1 (by omega),h1]) (fun _ _ _ h=>h) f1 ?_ ?_ ?_ (fun _ h=>h.elim)
 ·intro j h hj hmt h1
  have hp:S.pe n e j=false:=by rw[S.pe,<-yY ege];exact hmt
  rw[h1,S.an,hp];simp
 ·intro j u g1 hj hmt h1 hn hu
  have hp:S.pe n e j=true:=by rw[S.pe,<-yY ege];exact hmt
  have hb:=wP hr (p:=S.pe n e) (j:=j+1) (by omega)
  have hs:S.an n (S.pe n e) (j+1)=S.an n (S.pe n e) j+S.aO n (S.ap (S.aa n) (j:Int)):=by rw[S.an,hp];simp
  have w1:IntKind.wrap .i64 (S.an n (S.pe n e) j+S.aO n (S.ap (S.aa n) (j:Int)))=S.an n (S.pe n e) (j+1):=by rw[<-hs,aG (by omega) (by omega)]
  simp only[sz,simprocAttr,eg]
  refine ⟨HN _ _ _,?_⟩
  intro g2 n2 f2'
  have k6:g2.h.get g1.nx=.cells 3 [[.int .i64 (j:Int),.int .i64 (S.aO n (S.ap (S.aa n) (j:Int))),u]] 0 false false:=by rw[f2' _ (by omega),if_pos rfl]
  have k1:g2.h.get 1=.cells 1 [[.int .i64 (S.an n (S.pe n e) j)]] 0 false false:=by rw[f2' 1 (by omega),if_neg (by omega),if_neg (by omega),h1]
  simp only[sz,simprocAttr,eh,h5,k1,k6,w1]
  exact ⟨by simp,fun i h1 h2=>by simp[H.get_put,show ¬i=1 by omega],.inl ⟨rfl,by simp[H.get_put]⟩⟩
 ·intro g' h1 hn hdf
  simp only[sz,simprocAttr,eD,h5,h1]
  refine ks hdf ?_
  simp only[sx,↓reduceIte]
  rw[Fl]
section
variable {α:Type} [DecidableEq α]
def mgt (L:List (α×Int))(k:α):Int:=match L with
 | []=>0
 | (a,v)::r=>if k=a then v else mgt r k
def mcl (kf:α->AV)(L:List (α×Int)):List (AV×AV):=L.map fun p=>(kf p.1,.int .i64 p.2)
end
def ik (a:Int):AV:=.int .i64 a
end
end Hx
end
section
namespace Hx
open Go
noncomputable section
def S.bB (s j:Nat):List Int:=((List.range j).filter fun v=>s.testBit v).map fun v:Nat=>(v:Int)
def S.bD (n:Net)(vals:List Int)(s j:Nat):Int:=S.af (S.ac (S.aa n) (S.bB s j)) (S.ac vals (S.bB s j))
def S.bC (n:Net)(s:Nat)(w:Nat):Int:=S.bD n (S.ap (S.aa n) (w:Int)) s n.nodes.length
def S.bG (n:Net)(s:Nat)(K:Int)(j:Nat):Int:=S.an n (fun u=>decide (S.bC n s u=K)) j
def S.ay (x:Nat):Nat:=x % 18446744073709551616
def S.ah (x y:Nat):Nat×Nat :=
 let x0:=x % 4294967296
 let x1:=x / 4294967296
 let y0:=y % 4294967296
 let y1:=y / 4294967296
 let w0:=S.ay (x0*y0)
 let t:=S.ay (S.ay (x1*y0)+w0 / 4294967296)
 let w1:=S.ay (t % 4294967296+S.ay (x0*y1))
 let w2:=t / 4294967296
 (S.ay (S.ay (S.ay (x1*y1)+w2)+w1 / 4294967296),S.ay (x*y))
theorem tX (x:Nat):S.ay x<18446744073709551616:=Nat.mod_lt _ (by decide)
theorem t9 (a b:Nat):bA .mul (.int .u64 (a:Int)) (.int .u64 (b:Int))=.val (.int .u64 (S.ay (a*b):Int)):=by
 rw[sO]
 congr 2
theorem wV (a b:Nat):bA .add (.int .u64 (a:Int)) (.int .u64 (b:Int))=.val (.int .u64 (S.ay (a+b):Int)):=by
 rw[sG]
 congr 2
theorem kX (m:Nat)(h:m<18446744073709551616):bA .and (.int .u64 (m:Int)) (.int .u64 4294967295)=.val (.int .u64 ((m % 4294967296:Nat):Int)):=by
 have:=Bp m 4294967295 h (by decide)
 have e:m &&& 4294967295=m % 4294967296:=Nat.and_two_pow_sub_one_eq_mod m 32
 rw[e] at this
 exact this
theorem ki (m:Nat)(h:m<18446744073709551616):bA .shr (.int .u64 (m:Int)) (.int .u64 32)=.val (.int .u64 ((m / 4294967296:Nat):Int)):=wG .u64 m 32 h
theorem C2 {d:Nat}{g:G}{x y:Nat}(hd:0<d)(hx:x<18446744073709551616)(hy:y<18446744073709551616) :
  ac C0 d N.an [.int .u64 (x:Int),.int .u64 (y:Int)] g=.val (.tup [.int .u64 ((S.ah x y).1:Int),.int .u64 ((S.ah x y).2:Int)]):=by
 have key:∃r,ac C0 d N.an [.int .u64 (x:Int),.int .u64 (y:Int)] g=.val r/\mN (One (S.ah x y).1) (One (S.ah x y).2) NoP 0 .nil r:=by
  rw[io]
  refine aR jD (xs:=[.int .u64 (x:Int),.int .u64 (y:Int)]) rfl (by simp[cw]) (bz (m:=1) (aM _) (aM _) (by decide) (by decide)) (by decide) hd ?_
  have nx:=kX x hx
  have ny:=kX y hy
  have sx':=ki x hx
  have sy':=ki y hy
  have m5:=t9 x y
  unfold S.ah
  simp only
  generalize x % 4294967296=x0 at *
  generalize x / 4294967296=x1 at *
  generalize y % 4294967296=y0 at *
  generalize y / 4294967296=y1 at *
  have m1:=t9 x0 y0
  have m2:=t9 x1 y0
  have m3:=t9 x0 y1
  have m4:=t9 x1 y1
  have s1:=ki (S.ay (x0*y0)) (tX _)
  have a1:=wV (S.ay (x1*y0)) (S.ay (x0*y0) / 4294967296)
  generalize S.ay (x0*y0) / 4294967296=w0 at *
  have ht:=tX (S.ay (x1*y0)+w0)
  generalize S.ay (S.ay (x1*y0)+w0)=tt at *
  have n1:=kX tt ht
  have s2:=ki tt ht
  have a2:=wV (tt % 4294967296) (S.ay (x0*y1))
  have a3:=wV (S.ay (x1*y1)) (tt / 4294967296)
  have hw:=tX (tt % 4294967296+S.ay (x0*y1))
  generalize S.ay (tt % 4294967296+S.ay (x0*y1))=w1 at *
  have s3:=ki w1 hw
  have a4:=wV (S.ay (S.ay (x1*y1)+tt / 4294967296)) (w1 / 4294967296)
  simp only[cw,sx,SO.run,↓reduceIte,Nat.reduceEqDiff,nx,ny,sx',sy',m1,m2,m3,m4,m5,s1,s2,s3,n1,a1,a2,a3,a4,iB]
  exact ⟨NoP,_,_,rfl,eO.2 ⟨rfl,tX _⟩,eO.2 ⟨rfl,tX _⟩⟩
 obtain ⟨r,hr,a,c,rfl,ha,hc⟩:=key
 have ha:=eO.1 ha
 have hc:=eO.1 hc
 rw[hr]
 rw[List.cons.inj ha.1 |>.1,List.cons.inj hc.1 |>.1]
theorem uo {k:Nat}{l:List Int}{v:AV}{h:H}(hl:SlR NoP k .nil l v):Rp.rp (fun _=>True) k h l [v]:=by
 obtain ⟨w,hw,q⟩:=Rp.tree (P:=fun _=>True) (k':=k) (h':=h) (show Rp.rp NoP k .nil l [v] from ⟨v,rfl,hl⟩) (Nat.le_refl _)
 exact ⟨w,hw,q⟩
theorem IE {k:Nat}{a b:List Int}{va vb:AV}{q:Nat}{h:H}(ha:SlR NoP k .nil a va)(hb:SlR NoP k .nil b vb)(hq:h.get q=.cells 1 [[va],[vb]] 0 false false):SlR (fun _=>True) k h [a,b] (.hsl q 0 0 2 none):=by
 refine ⟨by show 2<_;decide,trivial,[[va],[vb]],?_,uo ha,uo hb,trivial⟩
 show ah h 1 _=_
 simp only[ah,hq];rfl
theorem IX {a:List Int}{va:AV}{q k:Nat}{h:H}(ha:SlR NoP k .nil a va)(hq:h.get q=.cells 1 [[va]] 0 false false):SlR (fun _=>True) k h [a] (.hsl q 0 0 1 none):=by
 refine ⟨by show 1<_;decide,trivial,[[va]],?_,uo ha,trivial⟩
 show ah h 1 _=_
 simp only[ah,hq];rfl
theorem sV {n:Net}{ls:List (List Int)}{P:Nat->Prop}{k:Nat}{h:H}{v:AV}(hv:GM n ls P k h v) :
  ∃y cs,v=.tup [.agg cs,.int .i64 (S.aI n ls)]/\(S.aI n ls=0->QnOk n y)/\Rp.rp P k h y cs/\∃a1 a2 a3 a4,cs=[a1,a2,a3,a4]:=by
 obtain ⟨y,hy,a,c,rfl,⟨cs,rfl,hc⟩,hi⟩:=hv
 have hi:=aC.1 hi
 injection hi with hi
 subst hi
 obtain ⟨a2,a3,a4,rfl,-⟩:=rR.1 hc
 exact ⟨y,_,rfl,hy,hc,_,_,_,_,rfl⟩
theorem zp (n:Net)(e:List Int):S.aI n [e]=S.aA n e:=by
 rw[S.aI,S.aA];simp
theorem jH {n:Net}{e:List Int}:S.aA n e=0↔S.aG n=true/\S.aq n e=true:=by
 rw[S.aA]
 cases S.aG n<;>cases S.aq n e<;>simp
def S.aE (n:Net)(e:List Int):QI:=if S.aA n e=0 then S.ak (S.aT n e).toNat (S.a_ n).toNat else (0,0)
theorem tx {n:Net}(hr:NR n):1<=S.a_ n/\S.a_ n<=167961600000000:=by
 have h1:=qg hr n.nodes.length hr.l2
 have h2:1<=S.a_ n:=gG fun c hc=>by have:=(List.mem_replicate.1 hc).2;have:=hr.g1;omega
 exact ⟨h2,h1.2⟩
theorem xV {d k0:Nat}{P:Nat->Prop}{g:G}{v w0:AV}{n:Net}{e:List Int}(hd:0<d)(hm:Agg n NoP 0 g.h v)(he:SlR P k0 g.h e w0)(hk:k0<=d:=by omega) :
  ac C0 d N.aq [v,w0] g=.val (.tup [.agg [.int .i64 (S.aE n e).1,.int .i64 (S.aE n e).2],.int .i64 (S.aA n e)]):=by
 have key:∃r,ac C0 d N.aq [v,w0] g=.val r/\mN (Agg (S.aE n e)) (One (S.aA n e)) NoP 0 .nil r:=by
  obtain ⟨b,rows,rfl,e1,hm',hN,r1,r2,r3,r4⟩:=jj d hm
  obtain ⟨w,ew,hw⟩:=ia he d
  rw[Nat.max_eq_right hk] at hw
  have hw:=hw .nil
  rw[rZ]
  refine aR uM (xs:=[.agg [.int .i64 n.grain,b],w]) (by simp only[aE,e1,ew]) (by simp[mq]) (bz (m:=2) (bm _) (aM _) (by decide) (by decide)) (by decide) hd ?_
  simp only[sz,simprocAttr,mq,nW,hw.cell.1,hw.cell.2]
  refine jR (Fv (n:=n) (ls:=[e]) (Nat.succ_pos d) (hm' _) (IX hw (by simp[sx]))) fun z hz=>?_
  obtain ⟨y,cs,rfl,hy,hc,a1,a2,a3,a4,rfl⟩:=sV hz
  rw[zp] at hy ⊢
  by_cases h0:S.aA n e=0
  ·have hyo:=hy h0
   obtain ⟨h1,h2⟩:=jH.1 h0
   have hr:=cO.1 h1
   have hj:S.aE n e=S.ak (S.aT n e).toNat (S.a_ n).toNat:=by rw[S.aE,if_pos h0]
   simp only[sz,simprocAttr,h0]
   rw[FL (n:=n) (Nat.succ_pos d) (hm' _) hr]
   simp only[sz,simprocAttr]
   rw[Bv (y:=y) (n:=n) (e:=e) (Nat.succ_pos d) hr ⟨_,rfl,Rp.tree hc (Nat.le_refl _)⟩ hyo (hw.tree (Nat.le_refl _)) h2]
   simp only[sz,simprocAttr]
   have hb1:=jF hr e
   have hb2:=tx hr
   obtain ⟨a,ha⟩:=Int.eq_ofNat_of_zero_le hb1.1
   obtain ⟨c,hc'⟩:=Int.eq_ofNat_of_zero_le (show 0<=S.a_ n by omega)
   rw[ha,hc'] at hj ⊢
   rw[zf (Nat.succ_pos d) (by omega) (by omega) (by omega)]
   simp only[sz,simprocAttr]
   rw[hj]
   exact ⟨fun _=>True,_,_,rfl,d_.2 rfl,aC.2 rfl⟩
  ·have hj:S.aE n e=(0,0):=by rw[S.aE,if_neg h0]
   have hbd:rh [.int .i64 0,.int .i64 0] [] []=.val (.agg [.int .i64 0,.int .i64 0]):=rfl
   simp only[sz,simprocAttr,h0]
   rw[hj]
   exact ⟨fun _=>True,_,_,rfl,d_.2 rfl,aC.2 rfl⟩
 obtain ⟨r,hr,a,c,rfl,ha,hc⟩:=key
 have hc:=aC.1 hc
 injection hc with hc
 rw[hr,d_.1 ha,hc]
def S.pb (n:Net)(e f:List Int)(w:Nat):Bool:=S.aS (S.ap (S.aa n) (w:Int)) e&&S.aS (S.ap (S.aa n) (w:Int)) f
def S.bc (n:Net)(e f:List Int):Int:=S.an n (S.pb n e f) (S.aC n)
def S.aK (n:Net)(e f:List Int):Int:=if S.aI n [e,f]=0 then (if S.aT n e=0 then 7 else 0) else S.aI n [e,f]
def S.aB (n:Net)(e f:List Int):QI:=if S.aK n e f=0 then S.ak (S.bc n e f).toNat (S.aT n e).toNat else (0,0)
theorem rA {n:Net}{e f:List Int}:S.aI n [e,f]=0↔S.aG n=true/\S.aq n e=true/\S.aq n f=true:=by
 rw[S.aI]
 cases S.aG n<;>cases h1:S.aq n e<;>cases h2:S.aq n f<;>simp[h1,h2]
theorem Ij {a b:AV}(ha:a.cells=[a]/\a.isTup=false)(hb:b.cells=[b]/\b.isTup=false)(g:G):Dj 1 2 [.nils] [0,1] [a,b] g=.upd (.hsl g.nx 0 0 2 none) (g.new (.cells 1 [[a],[b]] 0 false false)):=by
 simp[Dj,dC,ha,hb]
 rfl
theorem Ie {A:PT}{t:T}{df:List ADf}{g:G}(p:T->G->Prop)(hp:p t g)(h:∀t1 g1,p t1 g1->A t1 df g1):A t df g:=h t g hp
structure GvJ (g0:G) (q:Nat) (s:Int) (h:H):Prop where
 fr:∀i,i<g0.nx->i≠q->h.get i=g0.h.get i
 hq:h.get q=.cells 1 [[.int .i64 s]] 0 false false
theorem Cy {d ka kb:Nat}{Pa Pb:Nat->Prop}{g:G}{v w0 z0:AV}{n:Net}{e f:List Int}(hd:0<d)(hm:Agg n NoP 0 g.h v)(he:SlR Pa ka g.h e w0)(hf:SlR Pb kb g.h f z0)(hka:ka<=d:=by omega)(hkb:kb<=d:=by omega) :
  ac C0 d N.aE [v,w0,z0] g=.val (.tup [.agg [.int .i64 (S.aB n e f).1,.int .i64 (S.aB n e f).2],.int .i64 (S.aK n e f)]):=by
 have key:∃r,ac C0 d N.aE [v,w0,z0] g=.val r/\mN (Agg (S.aB n e f)) (One (S.aK n e f)) NoP 0 .nil r:=by
  obtain ⟨b,rows,rfl,e1,hm',hN,r1,r2,r3,r4⟩:=jj d hm
  obtain ⟨w,ew,hw⟩:=ia he d
  rw[Nat.max_eq_right hka] at hw
  have hw:=hw .nil
  obtain ⟨z,ez,hz⟩:=ia hf d
  rw[Nat.max_eq_right hkb] at hz
  have hz:=hz .nil
  have hbd:rh [.int .i64 0,.int .i64 0] [] []=.val (.agg [.int .i64 0,.int .i64 0]):=rfl
  rw[qV]
  refine aR tp (xs:=[.agg [.int .i64 n.grain,b],w,z]) (by simp only[aE,e1,ew,ez]) (by simp[jM]) (bz (m:=2) (bm _) (aM _) (by decide) (by decide)) (by decide) hd ?_
  simp only[sz,simprocAttr,jM,FS hz]
  obtain ⟨g0,hg0⟩:∃g0,g0=((G.empty.new (.cells 2 [[.int .i64 n.grain,b]] 0 false false)).new (.cells 1 [[z]] 0 false false)).new (.cells 2 [[.int .i64 0,.int .i64 0]] 0 false false):=⟨_,rfl⟩
  rw[<-hg0]
  have f0:g0.h.get 0=.cells 2 [[.int .i64 n.grain,b]] 0 false false:=by rw[hg0];simp[sx,H.get_put]
  have f1:g0.h.get 1=.cells 1 [[z]] 0 false false:=by rw[hg0];simp[sx,H.get_put]
  have f2:g0.h.get 2=.cells 2 [[.int .i64 0,.int .i64 0]] 0 false false:=by rw[hg0];simp[sx]
  have f3:g0.nx=3:=by rw[hg0];simp[sx]
  clear hg0
  unfold mJ
  simp only[sz,simprocAttr,f0,f1,Ij hw.cell hz.cell]
  refine jR (Fv (n:=n) (ls:=[e,f]) (Nat.succ_pos d) (hm' _) (IE hw hz (by simp[H.get_put]))) fun v hv=>?_
  obtain ⟨y,cs,rfl,hy,hc,a1,a2,a3,a4,rfl⟩:=sV hv
  by_cases h0:S.aI n [e,f]=0
  ·have hyo:=hy h0
   obtain ⟨h1,h2,h3⟩:=rA.1 h0
   have hr:=cO.1 h1
   obtain ⟨el,ege⟩:=fC h2
   obtain ⟨fl,fge⟩:=fC h3
   obtain ⟨W1,W2,W3⟩:=hr.wl
   simp only[sz,simprocAttr,f3,h0]
   rw[Bv (y:=y) (n:=n) (e:=e) (Nat.succ_pos d) hr ⟨_,rfl,Rp.tree hc (Nat.le_refl _)⟩ hyo (hw.tree (Nat.le_refl _)) h2]
   by_cases hm0:S.aT n e=0
   ·have hE:S.aK n e f=7:=by rw[S.aK,if_pos h0,if_pos hm0]
    have hj:S.aB n e f=(0,0):=by rw[S.aB,hE];rfl
    simp only[sz,simprocAttr,f3,hm0,f2]
    rw[hj,hE]
    exact ⟨fun _=>True,_,_,rfl,d_.2 rfl,aC.2 rfl⟩
   ·have hE:S.aK n e f=0:=by rw[S.aK,if_pos h0,if_neg hm0]
    have hj:S.aB n e f=S.ak (S.bc n e f).toNat (S.aT n e).toNat:=by rw[S.aB,hE];rfl
    simp only[sz,simprocAttr,f3,hm0]
    refine jR (Q:=fun r=>∃cs z t1 t2,r=.clo N.ah [] [.tptr t1 4 [cs] 0 0,.tptr t2 1 [[z]] 0 0]/\Rp.rp NoP d .nil y cs/\SlR NoP d .nil e z) ?_ ?_
    ·obtain ⟨cs',z',t1,t2,ez,h1,h2⟩:=rU (d:=d+1) (y:=y) (e:=e) (v:=.agg [a1,a2,a3,a4]) (w:=w) (Nat.succ_pos d) ⟨_,rfl,Rp.tree hc (Nat.le_refl _)⟩ (hw.tree (Nat.le_refl _))
     exact ⟨_,ez,cs',z',t1,t2,rfl,h1,h2⟩
    rintro _ ⟨cs',z',t1,t2,rfl,hcs',hz'⟩
    simp only[sx]
    refine Ie (fun t g=>g.nx=6/\g.h.get 1=.cells 1 [[z]] 0 false false/\g.h.get 2=.cells 2 [[.int .i64 0,.int .i64 0]] 0 false false/\g.h.get 5=.cells 1 [[.int .i64 0]] 0 false false/\St t [(5,.hptr 1 0 0 0),(6,.hptr 2 0 0 0),(10,.int .i64 (S.aT n e)),(11,.hptr 5 0 0 0),(33,.clo N.ah [] [.tptr t1 4 [cs'] 0 0,.tptr t2 1 [[z']] 0 0])]) ?_ ?_
    ·refine ⟨by simp[f3],by simp[H.get_put,f3,f1],by simp[H.get_put,f3,f2],by simp[H.get_put],by simp[St,sx]⟩
    rintro t g1 ⟨n1,k1,k2,k5,h5,h6,h10,h11,h33,-⟩
    refine vy (t1:=t1) (t2:=t2) (n:=n) (y:=y) (e:=e) (cs:=cs') (w:=z') (Nat.succ_pos d) hr hyo hcs' hz' (by omega) h33 (by decide)
     (fun j h=>GvJ g1 5 (S.an n (S.pb n e f) j) h) (fun _=>False) (fun j h h' hh hg=>⟨fun i h1 h2=>by rw[hh i h1,hg.fr i h1 h2],by rw[hh 5 (by omega),hg.hq]⟩) (fun _ _ _ h=>h) ⟨fun _ _ _=>rfl,k5⟩ ?_ ?_ ?_ (fun _ h=>h.elim)
    ·intro j h hj hmt hg
     have hp:S.pb n e f j=false:=by rw[S.pb,<-yY ege,hmt];rfl
     refine ⟨hg.fr,?_⟩
     rw[hg.hq,S.an,hp];simp
    ·intro j u g2 hj hmt hg hn hu
     have hb:=wP hr (p:=S.pb n e f) (j:=j+1) (by omega)
     have hvl:(S.ap (S.aa n) (j:Int)).length=n.nodes.length:=by simp[S.ap,aW]
     simp only[sz,simprocAttr,lI]
     refine ⟨HN _ _ _,?_⟩
     intro g3 n3 f3'
     have j12:g3.h.get g2.nx=.cells 3 [[.int .i64 (j:Int),.int .i64 (S.aO n (S.ap (S.aa n) (j:Int))),u]] 0 false false:=by rw[f3' _ (by omega),if_pos rfl]
     have jo:∀i,i<6->g3.h.get i=g2.h.get i:=fun i hi=>by rw[f3' i (by omega),if_neg (by omega),if_neg (by omega)]
     have j1:g3.h.get 1=.cells 1 [[z]] 0 false false:=by rw[jo 1 (by omega),hg.fr 1 (by omega) (by omega),k1]
     have j5:g3.h.get 5=.cells 1 [[.int .i64 (S.an n (S.pb n e f) j)]] 0 false false:=by rw[jo 5 (by omega),hg.hq]
     have hu3:SlR (fun _=>True) 0 g3.h (S.ap (S.aa n) (j:Int)) u:=hu.wd fun i hi=>⟨trivial,by rw[f3' i (by omega),if_neg (by omega),if_neg (by omega)]⟩
     have hmt3:=uA (d:=d+1) (g:=g3) (v:=u) (w:=z) (vals:=S.ap (S.aa n) (j:Int)) (e:=f) (Nat.succ_pos d) hu3 (hz.tree (h':=g3.h) (Nat.le_refl _)) (by omega)
     rw[yY fge] at hmt3
     cases hmf:S.aS (S.ap (S.aa n) (j:Int)) f with
     | true =>
      rw[hmf] at hmt3
      have hp:S.pb n e f j=true:=by rw[S.pb,<-yY ege,hmt,hmf];rfl
      have hs:S.an n (S.pb n e f) (j+1)=S.an n (S.pb n e f) j+S.aO n (S.ap (S.aa n) (j:Int)):=by rw[S.an,hp];simp
      have w1:IntKind.wrap .i64 (S.an n (S.pb n e f) j+S.aO n (S.ap (S.aa n) (j:Int)))=S.an n (S.pb n e f) (j+1):=by rw[<-hs,aG (by omega) (by omega)]
      simp only[sz,simprocAttr,gn,h5,h11,j12,j1,j5,hmt3,w1]
      exact ⟨by simp,fun i h1 h2=>by simp[H.get_put,show ¬i=5 by omega],.inl ⟨rfl,fun i h1 h2=>by simp[H.get_put,h2];rw[jo i (by omega),hg.fr i h1 h2],by simp[H.get_put]⟩⟩
     | false =>
      rw[hmf] at hmt3
      have hp:S.pb n e f j=false:=by rw[S.pb,hmf,Bool.and_false]
      have hs:S.an n (S.pb n e f) (j+1)=S.an n (S.pb n e f) j:=by rw[S.an,hp];simp
      simp only[sz,simprocAttr,gn,h5,j12,j1,hmt3]
      exact ⟨Nat.le_refl _,fun i h1 h2=>rfl,.inl ⟨rfl,fun i h1 h2=>by rw[jo i (by omega),hg.fr i h1 h2],by rw[hs];exact j5⟩⟩
    ·intro g' hg hn hdf
     have hb:=wP hr (p:=S.pb n e f) (j:=S.aC n) (by omega)
     have hb1:=jF hr e
     obtain ⟨a,ha⟩:=Int.eq_ofNat_of_zero_le hb.1
     obtain ⟨c,hc'⟩:=Int.eq_ofNat_of_zero_le hb1.1
     have hq5:=hg.hq
     have q2:g'.h.get 2=.cells 2 [[.int .i64 0,.int .i64 0]] 0 false false:=by rw[hg.fr 2 (by omega) (by omega),k2]
     have hbo:S.bc n e f=(a:Int):=ha
     rw[ha] at hq5
     rw[hc'] at h10 hm0
     have hmk:=zf (d:=d+1) (g:=g') (n:=a) (m:=c) (Nat.succ_pos d) (by omega) (by omega) (by omega)
     simp only[sz,simprocAttr,kA,h11,h10,h6,hq5,hmk,q2]
     refine ks (by simp[H.get_put,show ¬g1.nx=2 by omega,hdf]) ?_
     simp only[sx,sy,↓reduceIte,Nat.reduceEqDiff,h6]
     rw[if_neg (by omega)]
     simp only[sx,sy,↓reduceIte,Nat.reduceAdd,Nat.reduceLeDiff]
     rw[hj,hE,hbo,hc']
     exact ⟨fun _=>True,_,_,rfl,d_.2 rfl,aC.2 rfl⟩
  ·have hE:S.aK n e f=S.aI n [e,f]:=by rw[S.aK,if_neg h0]
   have hj:S.aB n e f=(0,0):=by rw[S.aB,hE,if_neg h0]
   simp only[sz,simprocAttr,f3,h0,f2]
   rw[hj,hE]
   exact ⟨fun _=>True,_,_,rfl,d_.2 rfl,aC.2 rfl⟩
 obtain ⟨r,hr,a,c,rfl,ha,hc⟩:=key
 have hc:=aC.1 hc
 injection hc with hc
 rw[hr,d_.1 ha,hc]
structure ND where
 c:Nat->Int
 P:Nat->List Int
 m:Nat->Nat
 R:Nat->Nat->List Int
 o:Nat->Nat
def LN (n:Nat)(D:ND):Ky->Prop:=fun k=>k=(0,0)\/∃i q,k=(i+1,q)/\i<n/\q<2+D.o i
theorem LN.z {n:Nat}{D:ND}:LN n D (0,0):=.inl rfl
theorem LN.s {n:Nat}{D:ND}{i q:Nat}(h:i<n)(hq:q<2+D.o i):LN n D (i+1,q):=.inr ⟨i,q,rfl,h,hq⟩
theorem LN.p {n:Nat}{D:ND}{i:Nat}(h:i<n):LN n D (i+1,0):=LN.s h (by omega)
theorem LN.r {n:Nat}{D:ND}{i:Nat}(h:i<n):LN n D (i+1,1):=LN.s h (by omega)
def d7 (D:ND)(V:Ky->AV)(i:Nat):List AV:=[.int .i64 (D.c i),V (i+1,0),V (i+1,1)]
def AQ (V:Ky->AV)(i r:Nat):List AV:=[V (i+1,2+r)]
structure BN (K n:Nat) (V:Ky->AV) (E:Ky->En) (D:ND):Prop where
 ns:E (0,0)=.sl 3 ((List.range n).map (d7 D V))
 ps:∀i,i<n->E (i+1,0)=.sl 1 ((D.P i).map ci)/\(D.P i).length<=K
 rs:∀i,i<n->E (i+1,1)=.sl 1 ((List.range (D.m i)).map (AQ V i))/\D.m i<=K
 rr:∀i r,i<n->r<D.m i->(D.R i r).length<=K/\((r<D.o i/\E (i+1,2+r)=.sl 1 ((D.R i r).map ci))\/SlR NoP 0 .nil (D.R i r) (V (i+1,2+r)))
def ND.node (D:ND)(i:Nat):Node:=⟨D.c i,D.P i,(List.range (D.m i)).map (D.R i)⟩
theorem Bu {g:G}{b:Nat}{v:AV}{l:List Int}{P:Nat->Prop}(h:Own g b v 1 (l.map ci))(hl:l.length<9223372036854775808)(hp:∀i,b<=i->P i):SlR P 0 g.h l v :=
 Own.sl (α:=Int) h hl (All2.of_map (fun a=>aC.2 rfl) _) fun i hi=>hp i (h.lt hi).1
theorem BN.rows {g:G}{b K n i:Nat}{V:Ky->AV}{E:Ky->En}{D:ND}{L:Ky->Prop}(hB:BN K n V E D)(hH:Hp g b L V E)(hL:∀k,LN n D k->L k)(hK:K<=1000000)(hi:i<n):SlR (fun j=>b<=j) 0 g.h ((List.range (D.m i)).map (D.R i)) (V (i+1,1)):=by
 obtain ⟨h1,h2⟩:=hB.rs i hi
 have ho:=hH.own (hL _ (LN.r hi)) h1
 refine Own.sl (α:=List Int) ho (by simp;omega) (qU fun r hr=>?_) fun j hj=>(ho.lt hj).1
 have hr:=List.mem_range.1 hr
 obtain ⟨h4,h3⟩:=hB.rr i r hi hr
 rcases h3 with ⟨h5,h3⟩ | h3
 ·exact oe.2 ⟨_,rfl,Bu (hH.own (hL _ (LN.s hi (by omega))) h3) (by omega) fun _ h=>h⟩
 ·exact oe.2 ⟨_,rfl,(h3.tree (h':=g.h) (Nat.le_refl 0)).wd fun _ h=>h.elim⟩
theorem Hp.off {κ:Type} [DecidableEq κ]{g:G}{b:Nat}{L:κ->Prop}{V:κ->AV}{E:κ->En}{k:κ}{x:AV}(h:Hp g b L V E)(hk:¬L k):Hp g b L (ups V k x) E:=by
 have ne:∀j,L j->j≠k:=fun j hj e=>hk (by rw[<-e];exact hj)
 exact ⟨fun j hj=>by rw[af V x (ne j hj)];exact h.ok j hj,fun j l hj hl hne id=>by rw[af V x (ne j hj),af V x (ne l hl)];exact h.sep j l hj hl hne id,h.nx⟩
theorem BN.pars {g:G}{b K n i:Nat}{V:Ky->AV}{E:Ky->En}{D:ND}{L:Ky->Prop}(hB:BN K n V E D)(hH:Hp g b L V E)(hL:∀k,LN n D k->L k)(hK:K<=1000000)(hi:i<n):SlR (fun j=>b<=j) 0 g.h (D.P i) (V (i+1,0)):=by
 obtain ⟨h1,h2⟩:=hB.ps i hi
 exact Bu (hH.own (hL _ (LN.p hi)) h1) (by omega) fun _ h=>h
theorem BN.nodes {g:G}{b K n:Nat}{V:Ky->AV}{E:Ky->En}{D:ND}{L:Ky->Prop}(hB:BN K n V E D)(hH:Hp g b L V E)(hL:∀k,LN n D k->L k)(hK:K<=1000000)(hn:n<=1000000):SlR (fun j=>b<=j) 0 g.h ((List.range n).map D.node) (V (0,0)):=by
 have ho:=hH.own (hL _ LN.z) hB.ns
 refine Own.sl (α:=Node) ho (by simp;omega) (qU fun i hi=>?_) fun j hj=>(ho.lt hj).1
 have hi:=List.mem_range.1 hi
 exact dN.2 ⟨_,_,rfl,hB.pars hH hL hK hi,hB.rows hH hL hK hi⟩
theorem j6 {α:Type}(f:Nat->α){n i:Nat}(x:α)(hi:i<n):((List.range n).map f).set i x=(List.range n).map (ups f i x):=by
 refine List.ext_getElem (by simp) fun j h1 h2=>?_
 rw[List.getElem_set]
 by_cases e:i=j
 ·subst e;simp[aF]
 ·rw[if_neg e];simp[af _ _ (Ne.symm e)]
theorem eA {α:Type}(f:Nat->α){n i:Nat}(hi:i<n):((List.range n).map f)[i]?=some (f i):=by simp[hi]
theorem ta {D D':ND}{V V':Ky->AV}{n i:Nat}{row:List AV}(h0:row=d7 D' V' i)(h:∀j,j<n->j≠i->d7 D V j=d7 D' V' j):(List.range n).map (ups (d7 D V) i row)=(List.range n).map (d7 D' V'):=by
 refine List.map_congr_left fun j hj=>?_
 have hj:=List.mem_range.1 hj
 by_cases e:j=i
 ·subst e;rw[aF,h0]
 ·rw[af _ _ e,h j hj e]
end
end Hx
end
